/- The closed facts of the statement's card, joined. -/
import Derived.Test.YtjlhjkdmpngkbaaL30b
namespace Go.Proofs.Ytjlhjkdmpngkbaa.lExactRouteMask
open Go.RowKit
theorem closed : joinedFacts Try.pinned.checked.prog 12 Try.f12 Rows.fnExactRouteMaskSpec Rows.fnExactRouteMaskRow = true := by
  unfold joinedFacts
  rw [show (Rows.fnExactRouteMaskRow.inPlace == Try.pinned.checked.prog.inPlace 12) = true from d1,
    show (Rows.fnExactRouteMaskRow.unfollowed == Try.pinned.checked.prog.unfollowed 12) = true from d2,
    show (Rows.fnExactRouteMaskRow.recurses == Try.pinned.checked.prog.recurses 12) = true from d3,
    show (Rows.fnExactRouteMaskRow.named == Try.pinned.checked.prog.varsNamed 12) = true from d4]
  kernel_rfl
end Go.Proofs.Ytjlhjkdmpngkbaa.lExactRouteMask
