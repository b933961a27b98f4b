/- The closed facts of the statement's card, joined. -/
import Derived.Test.YtjlhjkdmpngkbaaL27b
namespace Go.Proofs.Ytjlhjkdmpngkbaa.lExactConflictPairs
open Go.RowKit
theorem closed : joinedFacts Try.pinned.checked.prog 10 Try.f10 Rows.fnExactConflictPairsSpec Rows.fnExactConflictPairsRow = true := by
  unfold joinedFacts
  rw [show (Rows.fnExactConflictPairsRow.inPlace == Try.pinned.checked.prog.inPlace 10) = true from d1,
    show (Rows.fnExactConflictPairsRow.unfollowed == Try.pinned.checked.prog.unfollowed 10) = true from d2,
    show (Rows.fnExactConflictPairsRow.recurses == Try.pinned.checked.prog.recurses 10) = true from d3,
    show (Rows.fnExactConflictPairsRow.named == Try.pinned.checked.prog.varsNamed 10) = true from d4]
  kernel_rfl
end Go.Proofs.Ytjlhjkdmpngkbaa.lExactConflictPairs
