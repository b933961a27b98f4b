/- Contracts: FitPositions on both sides; the walk of its law. -/
import Derived.Test.YtkafmhgnbfofjaaFit
import Derived.Test.YtkafmhgnbfofjaaMark
namespace Go.Proofs.Ytkafmhgnbfofjaa
open Go.RowKit

def fitP (m c : Int) : List Int × Bool := if askB m c then (fits m c, true) else ([], false)
theorem fitP_no {m c : Int} (h : askB m c = false) : fitP m c = ([], false) := by simp [fitP, h]
theorem fitP_yes {m c : Int} (h : askB m c = true) : fitP m c = (fits m c, true) := by simp [fitP, h]
theorem fitP_len (m c : Int) : (fitP m c).1.length ≤ 25 := by
  cases h : askB m c
  · rw [fitP_no h]; simp
  · rw [fitP_yes h]
    have := (askB_iff.1 h).2
    have := fitsTo_len m c (25 - c).toNat
    unfold fits; simp only; omega

set_option maxHeartbeats 1000000 in
theorem implFitPositions_any (m c : Int) (w : World) :
    Calls Try.prog 37 #[.int .i64 m, .int .i64 c] w (OutIntsB w (fitP m c).1 (fitP m c).2) := by
  cases ha : askB m c
  · have HP := Lib.hid (fitP_no ha)
    go_enter Try.func37, Try.ntmps37
    go_wp2_with (go_at_call 67; refine (isFit_any _ _ _).mono ?_; rintro e w' ⟨rfl, rfl⟩)
    go_ret2
    rw [HP.out]
    exact ⟨none, 0, rfl, Or.inl ⟨rfl, rfl⟩, frefl _⟩
  · obtain ⟨⟨g1, g2⟩, g3, g4⟩ := askB_iff.1 ha
    have HP := Lib.hid (fitP_yes ha)
    go_enter Try.func37, Try.ntmps37
    go_wp2_with (go_at_call 67; refine (isFit_any _ _ _).mono ?_; rintro e w' ⟨rfl, rfl⟩)
    refine (positions_any _ _ _ g3 g4).mono ?_; rintro e w1 ⟨p, cap, rfl, ho, hb⟩
    have HO := Lib.hid ho
    clear ho
    go_wp2
    go_ret2
    rw [HP.out]
    exact ⟨p, cap, rfl, HO.out, hb⟩

set_option maxHeartbeats 1000000 in
theorem specFitPositions_any (m c : Int) (w : World) :
    Calls Try.prog 36 #[.int .i64 m, .int .i64 c] w (OutIntsB w (fitP m c).1 (fitP m c).2) := by
  cases ha : askB m c
  · have HP := Lib.hid (fitP_no ha)
    go_enter Try.func36, Try.ntmps36
    go_wp2_with (go_at_call 65; refine (l8Asked_any _ _ _).mono ?_; rintro e w' ⟨rfl, rfl⟩)
    go_ret2
    rw [HP.out]
    exact ⟨some ⟨w.heap.size, 0, none⟩, 0, rfl, Or.inr ⟨w.heap.size, [], rfl, Nat.le_refl _, RowAt.new w _ []⟩, fnew (frefl _) _⟩
  · obtain ⟨⟨g1, g2⟩, g3, g4⟩ := askB_iff.1 ha
    have HP := Lib.hid (fitP_yes ha)
    go_enter Try.func36, Try.ntmps36
    go_wp2_with (go_at_call 65; refine (l8Asked_any _ _ _).mono ?_; rintro e w' ⟨rfl, rfl⟩)
    refine (l8Fits_any _ _ _ g3 g4).mono ?_; rintro e w1 ⟨p, cap, rfl, ho, hb⟩
    have HO := Lib.hid ho
    clear ho
    go_wp2
    go_ret2
    rw [HP.out]
    exact ⟨p, cap, rfl, HO.out, hb⟩

set_option maxHeartbeats 1000000 in
theorem law_FitPositions (m c : Int) (w : World) (_ : -9223372036854775808 ≤ m ∧ m ≤ 9223372036854775807) (_ : -9223372036854775808 ≤ c ∧ c ≤ 9223372036854775807) :
    Calls Try.prog 9 #[.int .i64 m, .int .i64 c] w fun e w' => e = .returned (.bool true) ∧ Fresh w w' := by
  have hlen := fitP_len m c
  generalize hr : fitP m c = r at hlen
  obtain ⟨L, ok⟩ := r
  have HR := Lib.hid hr
  clear hr
  simp only at hlen
  have hsame : eqInts L L = true := by simp [eqInts]
  go_enter Try.func9, Try.ntmps9
  go_wp2_with fail
  refine (specFitPositions_any _ _ _).mono ?_; rw [HR.out]; rintro e w1 ⟨p1, cap1, rfl, ho1, hb1⟩
  have O1 := Lib.hid ho1
  clear ho1
  go_wp2_with fail
  refine (implFitPositions_any _ _ _).mono ?_; rw [HR.out]; rintro e w2 ⟨p2, cap2, rfl, ho2, hb2⟩
  have O2 := Lib.hid ho2
  clear ho2
  go_wp2_with fail
  refine (eqIntS_any _ _ _ _ _ _ _ O2.out.ints (O1.out.keep hb2).ints (by omega)).mono ?_; rintro e w3 ⟨rfl, hb3⟩
  go_wp2_with fail
  refine (markIntS_any _ _ _ _ 1 _ (O2.out.keep hb3) (by omega) (by omega) (by omega)).mono ?_; rintro e w4 ⟨rfl, ho4, hb4⟩
  have O4 := Lib.hid ho4
  clear ho4
  have hb24 : Fresh w1 w4 := Below.trans (fstep hb2 hb3) hb4
  go_wp2_with fail
  refine (heldIntS_any _ _ _ 1 _ O4.out.ints (by omega) (by omega) (by omega)).mono ?_; rintro e w5 ⟨rfl, rfl⟩
  go_wp2_with fail
  refine (implFitPositions_any _ _ _).mono ?_; rw [HR.out]; rintro e w6 ⟨p6, cap6, rfl, ho6, hb6⟩
  have O6 := Lib.hid ho6
  clear ho6
  go_wp2_with fail
  refine (eqIntS_any _ _ _ _ _ _ _ O6.out.ints ((O1.out.keep hb24).keep hb6).ints (by omega)).mono ?_; rintro e w7 ⟨rfl, hb7⟩
  go_wp2_with fail
  refine (heldIntS_any _ _ _ 1 _ ((O4.out.keep hb6).keep hb7).ints (by omega) (by omega) (by omega)).mono ?_; rintro e w8 ⟨rfl, rfl⟩
  go_wp2
  go_ret
  exact ⟨rfl, fstep hb1 (fstep hb24 (fstep hb6 hb7))⟩
end Go.Proofs.Ytkafmhgnbfofjaa
