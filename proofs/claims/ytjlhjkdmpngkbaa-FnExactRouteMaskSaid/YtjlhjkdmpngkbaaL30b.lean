/- The dear closed facts of the statement's card, one by one. -/
import Derived.Test.YtjlhjkdmpngkbaaBase
import Derived.JoinedOf
import Derived.OpenShut
namespace Go.Proofs.Ytjlhjkdmpngkbaa.lExactRouteMask
open Go.RowKit
theorem d1 : (Rows.fnExactRouteMaskRow.inPlace == Try.checked.prog.inPlace 12) = true := by kernel_rfl
theorem d2 : (Rows.fnExactRouteMaskRow.unfollowed == Try.checked.prog.unfollowed 12) = true := by kernel_rfl
theorem d3 : (Rows.fnExactRouteMaskRow.recurses == Try.checked.prog.recurses 12) = true := by kernel_rfl
theorem d4 : (Rows.fnExactRouteMaskRow.named == Try.checked.prog.varsNamed 12) = true := by kernel_rfl
end Go.Proofs.Ytjlhjkdmpngkbaa.lExactRouteMask
