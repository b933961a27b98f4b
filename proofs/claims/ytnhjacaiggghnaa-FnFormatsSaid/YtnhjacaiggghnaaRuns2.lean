/- Contracts: FreeRuns on both sides; lists of blocks compared, marked; the walk of the law. -/
import Derived.Test.YtnhjacaiggghnaaRuns
import Derived.Test.YtnhjacaiggghnaaFit2
namespace Go.Proofs.Ytnhjacaiggghnaa
open Go.RowKit

def freeP (m : Int) : List (Int × Int) × Bool := if maskB m then (runs m, true) else ([], false)
theorem freeP_no {m : Int} (h : maskB m = false) : freeP m = ([], false) := by simp [freeP, h]
theorem freeP_yes {m : Int} (h : maskB m = true) : freeP m = (runs m, true) := by simp [freeP, h]
theorem freeP_len (m : Int) : (freeP m).1.length ≤ 25 := by
  cases h : maskB m
  · rw [freeP_no h]; simp
  · rw [freeP_yes h]; exact runs_len m

set_option maxHeartbeats 1000000 in
theorem implFreeRuns_any (m : Int) (w : World) : Calls Try.prog 15 #[.int .i64 m] w (OutBlksB w (freeP m).1 (freeP m).2) := by
  cases hm : maskB m
  · have HP := Lib.hid (freeP_no hm)
    go_enter Try.func15, Try.ntmps15
    go_wp2_with (go_at_call 35; refine (isMask_any _ _).mono ?_; rintro e w' ⟨rfl, rfl⟩)
    go_ret2
    rw [HP.out]
    exact ⟨none, 0, rfl, Or.inl ⟨rfl, rfl⟩, frefl _⟩
  · have HP := Lib.hid (freeP_yes hm)
    have h0 : 0 ≤ m := (inB_iff.1 hm).1
    go_enter Try.func15, Try.ntmps15
    go_wp2_with (go_at_call 35; refine (isMask_any _ _).mono ?_; rintro e w' ⟨rfl, rfl⟩)
    refine (freeRuns_any _ _ h0).mono ?_; rintro e w1 ⟨p, cap, rfl, ho, hb⟩
    have HO := Lib.hid ho
    clear ho
    go_wp2
    go_ret2
    rw [HP.out]
    exact ⟨p, cap, rfl, HO.out, hb⟩

end Go.Proofs.Ytnhjacaiggghnaa
