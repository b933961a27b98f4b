/- Contracts: what a mask is, on both sides. -/
import Derived.Test.YtnhjacaiggghnaaU1
namespace Go.Proofs.Ytnhjacaiggghnaa
open Go.RowKit

/-- A mask of 24 slots. -/
def maskB (m : Int) : Bool := inB m 0 16777215

set_option maxHeartbeats 400000 in
theorem l8Mask_any (m : Int) (w : World) :
    Calls Try.prog 44 #[.int .i64 m] w fun e w' => e = .returned (.bool (maskB m)) ∧ w = w' := by
  go_enter Try.func44, Try.ntmps44
  go_wp2_with (go_at_call 28; refine (l1In_any _ _ _ _).mono ?_; rintro e w' ⟨rfl, rfl⟩)
  go_ret
  exact ⟨rfl, rfl⟩
set_option maxHeartbeats 400000 in
theorem isMask_any (m : Int) (w : World) :
    Calls Try.prog 35 #[.int .i64 m] w fun e w' => e = .returned (.bool (maskB m)) ∧ w = w' := by
  go_enter Try.func35, Try.ntmps35
  go_wp2_with (go_at_call 26; refine (within_any _ _ _ _).mono ?_; rintro e w' ⟨rfl, rfl⟩)
  go_ret
  exact ⟨rfl, rfl⟩


end Go.Proofs.Ytnhjacaiggghnaa
