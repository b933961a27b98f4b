/- The closed facts of the statement's card, joined. -/
import Derived.Test.YtjlhjkdmpngkbaaL25b
namespace Go.Proofs.Ytjlhjkdmpngkbaa.lExactLightNumber
open Go.RowKit
theorem closed : joinedFacts Try.pinned.checked.prog 8 Try.f8 Rows.fnExactLightNumberSpec Rows.fnExactLightNumberRow = true := by
  unfold joinedFacts
  rw [show (Rows.fnExactLightNumberRow.inPlace == Try.pinned.checked.prog.inPlace 8) = true from d1,
    show (Rows.fnExactLightNumberRow.unfollowed == Try.pinned.checked.prog.unfollowed 8) = true from d2,
    show (Rows.fnExactLightNumberRow.recurses == Try.pinned.checked.prog.recurses 8) = true from d3,
    show (Rows.fnExactLightNumberRow.named == Try.pinned.checked.prog.varsNamed 8) = true from d4]
  kernel_rfl
end Go.Proofs.Ytjlhjkdmpngkbaa.lExactLightNumber
