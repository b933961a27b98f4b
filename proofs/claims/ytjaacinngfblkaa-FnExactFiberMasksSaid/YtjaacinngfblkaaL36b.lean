/- The dear closed facts of the statement's card, one by one. -/
import Derived.Test.YtjaacinngfblkaaU1
import Derived.JoinedOf
import Derived.OpenShut
namespace Go.Proofs.Ytjaacinngfblkaa.lExactFiberMasks
open Go.RowKit
theorem d1 : (Rows.fnExactFiberMasksRow.inPlace == Try.checked.prog.inPlace 6) = true := by kernel_rfl
theorem d2 : (Rows.fnExactFiberMasksRow.unfollowed == Try.checked.prog.unfollowed 6) = true := by kernel_rfl
theorem d3 : (Rows.fnExactFiberMasksRow.recurses == Try.checked.prog.recurses 6) = true := by kernel_rfl
theorem d4 : (Rows.fnExactFiberMasksRow.named == Try.checked.prog.varsNamed 6) = true := by kernel_rfl
end Go.Proofs.Ytjaacinngfblkaa.lExactFiberMasks
