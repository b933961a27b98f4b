/- The statement, out of the walk inside the frame and the closed facts. -/
import Derived.Test.YtipbbfeimdobeaaL26a
import Derived.Test.YtipbbfeimdobeaaL26c
namespace Go.Proofs.Ytipbbfeimdobeaa.lExactAreCompatible
open Go.RowKit Go.ChangeShapes Go.WideShapes Go.ChangeAt Go.Joins

theorem proved : Rows.FnExactAreCompatibleSaid :=
  OpenClaim.holds_of_wide 4 Try.f4 rfl rfl rfl rfl rfl rfl rfl ⟨rfl, rfl, rfl, rfl, rfl⟩ rfl rfl rfl rfl rfl (by kernel_rfl) Try.func4 closed
    (of_decide_eq_true (by kernel_rfl)) (by unfold Func.isWrapper; first | (rw [if_pos (by decide +kernel)]; kernel_rfl) | (rw [if_neg (by decide +kernel)]; exact ⟨rfl, rfl⟩))
    (fun os started H enc _ => lifted os started H enc)
#print axioms proved
end Go.Proofs.Ytipbbfeimdobeaa.lExactAreCompatible
