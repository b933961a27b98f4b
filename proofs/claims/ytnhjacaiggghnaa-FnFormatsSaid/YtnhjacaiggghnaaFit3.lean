/- Contracts: FitPositions on both sides; the walk of its law. -/
import Derived.Test.YtnhjacaiggghnaaFit
import Derived.Test.YtnhjacaiggghnaaU1
namespace Go.Proofs.Ytnhjacaiggghnaa
open Go.RowKit

def fitP (m c : Int) : List Int × Bool := if askB m c then (fits m c, true) else ([], false)
theorem fitP_no {m c : Int} (h : askB m c = false) : fitP m c = ([], false) := by simp [fitP, h]
theorem fitP_yes {m c : Int} (h : askB m c = true) : fitP m c = (fits m c, true) := by simp [fitP, h]
theorem fitP_len (m c : Int) : (fitP m c).1.length ≤ 25 := by
  cases h : askB m c
  · rw [fitP_no h]; simp
  · rw [fitP_yes h]
    have := (askB_iff.1 h).2
    have := fitsTo_len m c (25 - c).toNat
    unfold fits; simp only; omega

set_option maxHeartbeats 1000000 in
theorem implFitPositions_any (m c : Int) (w : World) :
    Calls Try.prog 13 #[.int .i64 m, .int .i64 c] w (OutIntsB w (fitP m c).1 (fitP m c).2) := by
  cases ha : askB m c
  · have HP := Lib.hid (fitP_no ha)
    go_enter Try.func13, Try.ntmps13
    go_wp2_with (go_at_call 31; refine (isFit_any _ _ _).mono ?_; rintro e w' ⟨rfl, rfl⟩)
    go_ret2
    rw [HP.out]
    exact ⟨none, 0, rfl, Or.inl ⟨rfl, rfl⟩, frefl _⟩
  · obtain ⟨⟨g1, g2⟩, g3, g4⟩ := askB_iff.1 ha
    have HP := Lib.hid (fitP_yes ha)
    go_enter Try.func13, Try.ntmps13
    go_wp2_with (go_at_call 31; refine (isFit_any _ _ _).mono ?_; rintro e w' ⟨rfl, rfl⟩)
    refine (positions_any _ _ _ g3 g4).mono ?_; rintro e w1 ⟨p, cap, rfl, ho, hb⟩
    have HO := Lib.hid ho
    clear ho
    go_wp2
    go_ret2
    rw [HP.out]
    exact ⟨p, cap, rfl, HO.out, hb⟩

set_option maxHeartbeats 1000000 in
theorem specFitPositions_any (m c : Int) (w : World) :
    Calls Try.prog 14 #[.int .i64 m, .int .i64 c] w (OutIntsB w (fitP m c).1 (fitP m c).2) := by
  cases ha : askB m c
  · have HP := Lib.hid (fitP_no ha)
    go_enter Try.func14, Try.ntmps14
    go_wp2_with (go_at_call 33; refine (l8Asked_any _ _ _).mono ?_; rintro e w' ⟨rfl, rfl⟩)
    go_ret2
    rw [HP.out]
    exact ⟨some ⟨w.heap.size, 0, none⟩, 0, rfl, Or.inr ⟨w.heap.size, [], rfl, Nat.le_refl _, RowAt.new w _ []⟩, fnew (frefl _) _⟩
  · obtain ⟨⟨g1, g2⟩, g3, g4⟩ := askB_iff.1 ha
    have HP := Lib.hid (fitP_yes ha)
    go_enter Try.func14, Try.ntmps14
    go_wp2_with (go_at_call 33; refine (l8Asked_any _ _ _).mono ?_; rintro e w' ⟨rfl, rfl⟩)
    refine (l8Fits_any _ _ _ g3 g4).mono ?_; rintro e w1 ⟨p, cap, rfl, ho, hb⟩
    have HO := Lib.hid ho
    clear ho
    go_wp2
    go_ret2
    rw [HP.out]
    exact ⟨p, cap, rfl, HO.out, hb⟩

end Go.Proofs.Ytnhjacaiggghnaa
