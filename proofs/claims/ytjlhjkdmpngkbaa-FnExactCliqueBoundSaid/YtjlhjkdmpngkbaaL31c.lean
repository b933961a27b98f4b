/- The closed facts of the statement's card, joined. -/
import Derived.Test.YtjlhjkdmpngkbaaL31b
namespace Go.Proofs.Ytjlhjkdmpngkbaa.lExactCliqueBound
open Go.RowKit
theorem closed : joinedFacts Try.pinned.checked.prog 13 Try.f13 Rows.fnExactCliqueBoundSpec Rows.fnExactCliqueBoundRow = true := by
  unfold joinedFacts
  rw [show (Rows.fnExactCliqueBoundRow.inPlace == Try.pinned.checked.prog.inPlace 13) = true from d1,
    show (Rows.fnExactCliqueBoundRow.unfollowed == Try.pinned.checked.prog.unfollowed 13) = true from d2,
    show (Rows.fnExactCliqueBoundRow.recurses == Try.pinned.checked.prog.recurses 13) = true from d3,
    show (Rows.fnExactCliqueBoundRow.named == Try.pinned.checked.prog.varsNamed 13) = true from d4]
  kernel_rfl
end Go.Proofs.Ytjlhjkdmpngkbaa.lExactCliqueBound
