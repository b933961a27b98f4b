/- Contracts of the tests on ranges. -/
import Derived.Test.YtjlhjkdmpngkbaaBase
namespace Go.Proofs.Ytjlhjkdmpngkbaa
open Go.RowKit

set_option maxHeartbeats 400000 in
theorem l1In_any (x a b : Int) (w : World) :
    Calls Try.prog 143 #[.int .i64 x, .int .i64 a, .int .i64 b] w fun e w' => e = .returned (.bool (inB x a b)) ∧ w = w' := by
  by_cases h1 : a ≤ x
  · by_cases h2 : x ≤ b
    · go_enter Try.func143, Try.ntmps143
      go_wp2
      go_ret
      exact ⟨by rw [inB_t h1 h2]; rfl, rfl⟩
    · go_enter Try.func143, Try.ntmps143
      go_wp2
      go_ret
      exact ⟨by rw [inB_f (by omega)]; rfl, rfl⟩
  · go_enter Try.func143, Try.ntmps143
    go_wp2
    go_ret
    exact ⟨by rw [inB_f (by omega)]; rfl, rfl⟩

set_option maxHeartbeats 400000 in
theorem within_any (x a b : Int) (w : World) :
    Calls Try.prog 91 #[.int .i64 x, .int .i64 a, .int .i64 b] w fun e w' => e = .returned (.bool (inB x a b)) ∧ w = w' := by
  by_cases h1 : a ≤ x
  · by_cases h2 : x ≤ b
    · go_enter Try.func91, Try.ntmps91
      go_wp2
      go_ret
      exact ⟨by rw [inB_t h1 h2]; rfl, rfl⟩
    · go_enter Try.func91, Try.ntmps91
      go_wp2
      go_ret
      exact ⟨by rw [inB_f (by omega)]; rfl, rfl⟩
  · go_enter Try.func91, Try.ntmps91
    go_wp2
    go_ret
    exact ⟨by rw [inB_f (by omega)]; rfl, rfl⟩


end Go.Proofs.Ytjlhjkdmpngkbaa
