/- The closed facts of the statement's card, joined. -/
import Derived.Test.YtjlhjkdmpngkbaaL21b
namespace Go.Proofs.Ytjlhjkdmpngkbaa.lExactFiberBound
open Go.RowKit
theorem closed : joinedFacts Try.pinned.checked.prog 6 Try.f6 Rows.fnExactFiberBoundSpec Rows.fnExactFiberBoundRow = true := by
  unfold joinedFacts
  rw [show (Rows.fnExactFiberBoundRow.inPlace == Try.pinned.checked.prog.inPlace 6) = true from d1,
    show (Rows.fnExactFiberBoundRow.unfollowed == Try.pinned.checked.prog.unfollowed 6) = true from d2,
    show (Rows.fnExactFiberBoundRow.recurses == Try.pinned.checked.prog.recurses 6) = true from d3,
    show (Rows.fnExactFiberBoundRow.named == Try.pinned.checked.prog.varsNamed 6) = true from d4]
  kernel_rfl
end Go.Proofs.Ytjlhjkdmpngkbaa.lExactFiberBound
