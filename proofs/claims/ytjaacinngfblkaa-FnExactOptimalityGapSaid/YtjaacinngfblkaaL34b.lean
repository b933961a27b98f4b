/- The dear closed facts of the statement's card, one by one. -/
import Derived.Test.YtjaacinngfblkaaU1
import Derived.JoinedOf
import Derived.OpenShut
namespace Go.Proofs.Ytjaacinngfblkaa.lExactOptimalityGap
open Go.RowKit
theorem d1 : (Rows.fnExactOptimalityGapRow.inPlace == Try.checked.prog.inPlace 4) = true := by kernel_rfl
theorem d2 : (Rows.fnExactOptimalityGapRow.unfollowed == Try.checked.prog.unfollowed 4) = true := by kernel_rfl
theorem d3 : (Rows.fnExactOptimalityGapRow.recurses == Try.checked.prog.recurses 4) = true := by kernel_rfl
theorem d4 : (Rows.fnExactOptimalityGapRow.named == Try.checked.prog.varsNamed 4) = true := by kernel_rfl
end Go.Proofs.Ytjaacinngfblkaa.lExactOptimalityGap
