/- The dear closed facts of the statement's card, one by one. -/
import Derived.Test.YtjlhjkdmpngkbaaU1
import Derived.JoinedOf
import Derived.OpenShut
namespace Go.Proofs.Ytjlhjkdmpngkbaa.lExactCliqueBound
open Go.RowKit
theorem d1 : (Rows.fnExactCliqueBoundRow.inPlace == Try.checked.prog.inPlace 13) = true := by kernel_rfl
theorem d2 : (Rows.fnExactCliqueBoundRow.unfollowed == Try.checked.prog.unfollowed 13) = true := by kernel_rfl
theorem d3 : (Rows.fnExactCliqueBoundRow.recurses == Try.checked.prog.recurses 13) = true := by kernel_rfl
theorem d4 : (Rows.fnExactCliqueBoundRow.named == Try.checked.prog.varsNamed 13) = true := by kernel_rfl
end Go.Proofs.Ytjlhjkdmpngkbaa.lExactCliqueBound
