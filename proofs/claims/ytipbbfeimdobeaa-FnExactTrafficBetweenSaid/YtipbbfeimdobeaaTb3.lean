/- Traffic between nodes: both sides, as the law asks. -/
import Derived.Test.YtipbbfeimdobeaaTb2
namespace Go.Proofs.Ytipbbfeimdobeaa
open Go.RowKit

theorem trF_small (n : Net) (L : List Fib) : SmSS (trF n L).1 := by
  cases h : demsB n L
  · rw [trF_no h]; exact ⟨by simp, by simp⟩
  · rw [trF_yes h]
    obtain ⟨_, h2, _⟩ := dems_at h
    have h8 := netB_8 h2
    refine ⟨by rw [trM_len]; exact h8, fun r hr => ?_⟩
    unfold trM at hr
    obtain ⟨i, _, rfl⟩ := List.mem_map.1 hr
    rw [trRow_len]; exact h8
theorem implTrafficBetween_l (v : Value) (n : Net) (v2 : Value) (L : List Fib) (w : World) (h : NetIn w v n) (h2 : DmIn w v2 L) :
    Calls Try.prog 10 #[v, v2] w fun e w' => ∃ v', e = .returned (.tuple #[v', .bool (trF n L).2]) ∧ OwnSS w' w.heap.size v' (trF n L).1 ∧ Fresh w w' := implTrafficBetween_any v n v2 L w h h2
theorem specTrafficBetween_l (v : Value) (n : Net) (v2 : Value) (L : List Fib) (w : World) (h : NetIn w v n) (h2 : DmIn w v2 L) :
    Calls Try.prog 7 #[v, v2] w fun e w' => ∃ v', e = .returned (.tuple #[v', .bool (trF n L).2]) ∧ OwnSS w' w.heap.size v' (trF n L).1 ∧ Fresh w w' := specTrafficBetween_any v n v2 L w h h2
end Go.Proofs.Ytipbbfeimdobeaa
