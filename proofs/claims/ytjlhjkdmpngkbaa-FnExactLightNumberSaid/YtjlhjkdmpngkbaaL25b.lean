/- The dear closed facts of the statement's card, one by one. -/
import Derived.Test.YtjlhjkdmpngkbaaBase
import Derived.JoinedOf
import Derived.OpenShut
namespace Go.Proofs.Ytjlhjkdmpngkbaa.lExactLightNumber
open Go.RowKit
theorem d1 : (Rows.fnExactLightNumberRow.inPlace == Try.checked.prog.inPlace 8) = true := by kernel_rfl
theorem d2 : (Rows.fnExactLightNumberRow.unfollowed == Try.checked.prog.unfollowed 8) = true := by kernel_rfl
theorem d3 : (Rows.fnExactLightNumberRow.recurses == Try.checked.prog.recurses 8) = true := by kernel_rfl
theorem d4 : (Rows.fnExactLightNumberRow.named == Try.checked.prog.varsNamed 8) = true := by kernel_rfl
end Go.Proofs.Ytjlhjkdmpngkbaa.lExactLightNumber
