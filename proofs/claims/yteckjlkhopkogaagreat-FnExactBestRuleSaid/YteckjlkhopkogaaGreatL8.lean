/- The statement, out of the walk inside the frame and the closed facts. -/
import Derived.Test.YteckjlkhopkogaaGreatL8a
import Derived.Test.YteckjlkhopkogaaGreatL8c
namespace Go.Proofs.YteckjlkhopkogaaGreat.lExactBestRule
open Go.RowKit Go.ChangeShapes Go.WideShapes Go.ChangeAt Go.Joins
theorem proved:Rows.FnExactBestRuleSaid :=
 OpenClaim.holds_of_wide 8 Tryz.f8 rfl rfl rfl rfl rfl rfl rfl ⟨rfl,rfl,rfl,rfl,rfl⟩ rfl rfl rfl rfl rfl (by kernel_rfl) Tryz.func8 closed
  (of_decide_eq_true (by kernel_rfl)) (by unfold Func.isWrapper;first|(rw[if_pos (by decide +kernel)];kernel_rfl)|(rw[if_neg (by decide +kernel)];exact⟨rfl,rfl⟩))
  (fun os started H enc _=>lifted os started H enc)
#print axioms proved
end Go.Proofs.YteckjlkhopkogaaGreat.lExactBestRule
