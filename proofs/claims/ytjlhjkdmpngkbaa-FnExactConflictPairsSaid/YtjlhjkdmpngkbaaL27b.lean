/- The dear closed facts of the statement's card, one by one. -/
import Derived.Test.YtjlhjkdmpngkbaaU1
import Derived.JoinedOf
import Derived.OpenShut
namespace Go.Proofs.Ytjlhjkdmpngkbaa.lExactConflictPairs
open Go.RowKit
theorem d1 : (Rows.fnExactConflictPairsRow.inPlace == Try.checked.prog.inPlace 10) = true := by kernel_rfl
theorem d2 : (Rows.fnExactConflictPairsRow.unfollowed == Try.checked.prog.unfollowed 10) = true := by kernel_rfl
theorem d3 : (Rows.fnExactConflictPairsRow.recurses == Try.checked.prog.recurses 10) = true := by kernel_rfl
theorem d4 : (Rows.fnExactConflictPairsRow.named == Try.checked.prog.varsNamed 10) = true := by kernel_rfl
end Go.Proofs.Ytjlhjkdmpngkbaa.lExactConflictPairs
