/- The closed facts of the statement's card, joined. -/
import Derived.Test.YtlapicgeokjpjaaL29b
namespace Go.Proofs.Ytlapicgeokjpjaa.lDisjoint
open Go.RowKit
theorem closed : joinedFacts Try.pinned.checked.prog 3 Try.f3 Rows.fnDisjointSpec Rows.fnDisjointRow = true := by
  unfold joinedFacts
  rw [show (Rows.fnDisjointRow.inPlace == Try.pinned.checked.prog.inPlace 3) = true from d1,
    show (Rows.fnDisjointRow.unfollowed == Try.pinned.checked.prog.unfollowed 3) = true from d2,
    show (Rows.fnDisjointRow.recurses == Try.pinned.checked.prog.recurses 3) = true from d3,
    show (Rows.fnDisjointRow.named == Try.pinned.checked.prog.varsNamed 3) = true from d4]
  kernel_rfl
end Go.Proofs.Ytlapicgeokjpjaa.lDisjoint
