/- The dear closed facts of the statement's card, one by one. -/
import Derived.Test.YtlapicgeokjpjaaU1
import Derived.JoinedOf
import Derived.OpenShut
namespace Go.Proofs.Ytlapicgeokjpjaa.lDisjoint
open Go.RowKit
theorem d1 : (Rows.fnDisjointRow.inPlace == Try.checked.prog.inPlace 3) = true := by kernel_rfl
theorem d2 : (Rows.fnDisjointRow.unfollowed == Try.checked.prog.unfollowed 3) = true := by kernel_rfl
theorem d3 : (Rows.fnDisjointRow.recurses == Try.checked.prog.recurses 3) = true := by kernel_rfl
theorem d4 : (Rows.fnDisjointRow.named == Try.checked.prog.varsNamed 3) = true := by kernel_rfl
end Go.Proofs.Ytlapicgeokjpjaa.lDisjoint
