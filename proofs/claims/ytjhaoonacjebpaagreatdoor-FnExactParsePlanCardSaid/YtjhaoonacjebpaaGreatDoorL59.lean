/- The statement FnExactParsePlan, as a tied card: out of the walk inside the frame and the closed facts. -/
import Derived.Test.YtjhaoonacjebpaaGreatDoorL59a
import Derived.Test.YtjhaoonacjebpaaGreatDoorL59c
import Derived.Test.YtjhaoonacjebpaaGreatDoorCards
import Derived.Test.YtjhaoonacjebpaaGreatDoorTie
namespace Go.Proofs.YtjhaoonacjebpaaGreatDoor.lExactParsePlan
open Go.RowKit Go.ChangeShapes Go.WideShapes Go.ChangeAt Go.Joins

theorem said : Rows.FnExactParsePlanSaid :=
  OpenClaim.holds_of_wide 4 Tryz.f4 rfl rfl rfl rfl rfl rfl rfl ⟨rfl, rfl, rfl, rfl, rfl⟩ rfl rfl rfl rfl rfl (by kernel_rfl) Tryz.func4 closed
    (of_decide_eq_true (by kernel_rfl)) (by unfold Func.isWrapper; first | (rw [if_pos (by decide +kernel)]; kernel_rfl) | (rw [if_neg (by decide +kernel)]; exact ⟨rfl, rfl⟩))
    (fun os started H enc _ => lifted os started H enc)
theorem proved : Rows.FnExactParsePlanCardSaid :=
  Claim7.holds_tied_plain_at .later [] _ true _ true said (fun _ h => by cases h) (by kernel_rfl) (fun _ h => by cases h) fnExactParsePlan_row_tie rfl ⟨rfl, rfl⟩ (by kernel_rfl) rfl
    (fun f fn hf hfn => by
      obtain rfl : f = 4 := Option.some.inj ((show Tryz.prog.funcNamed "loop.example/g00897/laws.FnExactParsePlan" = some 4 by kernel_rfl).symm.trans hf) |>.symm
      obtain rfl : fn = Tryz.f4 := (Option.some.inj (Tryz.func4.symm.trans hfn)).symm
      exact ⟨by kernel_rfl, fun j t ht => by
        rw [Tryz.params4] at ht
        have h3 : t = 9 := by
          rcases j with _ | j
          · simpa using ht.symm
          · simp at ht
        subst h3
        exact (show Tryz.prog.wantsStandIn 9 = false by kernel_rfl)⟩)
    (by kernel_rfl)
#print axioms proved
end Go.Proofs.YtjhaoonacjebpaaGreatDoor.lExactParsePlan
