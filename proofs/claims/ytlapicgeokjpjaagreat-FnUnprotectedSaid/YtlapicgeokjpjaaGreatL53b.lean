/- The dear closed facts of the statement's card, one by one. -/
import Derived.Test.YtlapicgeokjpjaaGreatU1
import Derived.JoinedOf
import Derived.OpenShut
namespace Go.Proofs.YtlapicgeokjpjaaGreat.lUnprotected
open Go.RowKit
theorem d1 : (Rows.fnUnprotectedRow.inPlace == Tryz.checked.prog.inPlace 3) = true := by kernel_rfl
theorem d2 : (Rows.fnUnprotectedRow.unfollowed == Tryz.checked.prog.unfollowed 3) = true := by kernel_rfl
theorem d3 : (Rows.fnUnprotectedRow.recurses == Tryz.checked.prog.recurses 3) = true := by kernel_rfl
theorem d4 : (Rows.fnUnprotectedRow.named == Tryz.checked.prog.varsNamed 3) = true := by kernel_rfl
end Go.Proofs.YtlapicgeokjpjaaGreat.lUnprotected
