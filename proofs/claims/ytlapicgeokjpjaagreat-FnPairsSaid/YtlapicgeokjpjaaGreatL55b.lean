/- The dear closed facts of the statement's card, one by one. -/
import Derived.Test.YtlapicgeokjpjaaGreatU1
import Derived.JoinedOf
import Derived.OpenShut
namespace Go.Proofs.YtlapicgeokjpjaaGreat.lPairs
open Go.RowKit
theorem d1 : (Rows.fnPairsRow.inPlace == Tryz.checked.prog.inPlace 4) = true := by kernel_rfl
theorem d2 : (Rows.fnPairsRow.unfollowed == Tryz.checked.prog.unfollowed 4) = true := by kernel_rfl
theorem d3 : (Rows.fnPairsRow.recurses == Tryz.checked.prog.recurses 4) = true := by kernel_rfl
theorem d4 : (Rows.fnPairsRow.named == Tryz.checked.prog.varsNamed 4) = true := by kernel_rfl
end Go.Proofs.YtlapicgeokjpjaaGreat.lPairs
