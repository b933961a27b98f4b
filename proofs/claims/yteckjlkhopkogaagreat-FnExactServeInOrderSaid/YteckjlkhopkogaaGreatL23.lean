/- The statement, out of the walk inside the frame and the closed facts. -/
import Derived.Test.YteckjlkhopkogaaGreatL23a
import Derived.Test.YteckjlkhopkogaaGreatL23c
namespace Go.Proofs.YteckjlkhopkogaaGreat.lExactServeInOrder
open Go.RowKit Go.ChangeShapes Go.WideShapes Go.ChangeAt Go.Joins
theorem proved:Rows.FnExactServeInOrderSaid :=
 OpenClaim.holds_of_wide 7 Tryz.f7 rfl rfl rfl rfl rfl rfl rfl ⟨rfl,rfl,rfl,rfl,rfl⟩ rfl rfl rfl rfl rfl (by kernel_rfl) Tryz.func7 closed
  (of_decide_eq_true (by kernel_rfl)) (by unfold Func.isWrapper;first|(rw[if_pos (by decide +kernel)];kernel_rfl)|(rw[if_neg (by decide +kernel)];exact⟨rfl,rfl⟩))
  (fun os started H enc _=>lifted os started H enc)
#print axioms proved
end Go.Proofs.YteckjlkhopkogaaGreat.lExactServeInOrder
