/- The dear closed facts of the statement's card, one by one. -/
import Derived.Test.YtjlhjkdmpngkbaaBase
import Derived.JoinedOf
import Derived.OpenShut
namespace Go.Proofs.Ytjlhjkdmpngkbaa.lExactFiberBound
open Go.RowKit
theorem d1 : (Rows.fnExactFiberBoundRow.inPlace == Try.checked.prog.inPlace 6) = true := by kernel_rfl
theorem d2 : (Rows.fnExactFiberBoundRow.unfollowed == Try.checked.prog.unfollowed 6) = true := by kernel_rfl
theorem d3 : (Rows.fnExactFiberBoundRow.recurses == Try.checked.prog.recurses 6) = true := by kernel_rfl
theorem d4 : (Rows.fnExactFiberBoundRow.named == Try.checked.prog.varsNamed 6) = true := by kernel_rfl
end Go.Proofs.Ytjlhjkdmpngkbaa.lExactFiberBound
