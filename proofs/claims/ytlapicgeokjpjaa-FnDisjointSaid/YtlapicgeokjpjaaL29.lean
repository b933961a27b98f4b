/- The statement, out of the walk inside the frame and the closed facts. -/
import Derived.Test.YtlapicgeokjpjaaL29a
import Derived.Test.YtlapicgeokjpjaaL29c
namespace Go.Proofs.Ytlapicgeokjpjaa.lDisjoint
open Go.RowKit Go.ChangeShapes Go.WideShapes Go.ChangeAt Go.Joins

theorem proved : Rows.FnDisjointSaid :=
  OpenClaim.holds_of_wide 3 Try.f3 rfl rfl rfl rfl rfl rfl rfl ⟨rfl, rfl, rfl, rfl, rfl⟩ rfl rfl rfl rfl rfl (by kernel_rfl) Try.func3 closed
    (of_decide_eq_true (by kernel_rfl)) (by unfold Func.isWrapper; first | (rw [if_pos (by decide +kernel)]; kernel_rfl) | (rw [if_neg (by decide +kernel)]; exact ⟨rfl, rfl⟩))
    (fun os started H enc _ => lifted os started H enc)
#print axioms proved
end Go.Proofs.Ytlapicgeokjpjaa.lDisjoint
