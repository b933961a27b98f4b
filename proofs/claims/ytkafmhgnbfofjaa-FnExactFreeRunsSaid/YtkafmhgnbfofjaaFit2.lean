/- Contracts: FirstFit and LastFit of the reference; FitPositions on both sides; marks; the walks of the three laws. -/
import Derived.Test.YtkafmhgnbfofjaaFit
namespace Go.Proofs.Ytkafmhgnbfofjaa
open Go.RowKit

set_option maxHeartbeats 1000000 in
theorem specFirstFit_any (m c : Int) (w : World) :
    Calls Try.prog 26 #[.int .i64 m, .int .i64 c] w fun e w' => e = .returned (blkRes (pickF headI m c)) ∧ Fresh w w' := by
  cases ha : askB m c
  · have HP := Lib.hid (pickF_no (g := headI) ha)
    go_enter Try.func26, Try.ntmps26
    go_wp2_with (go_at_call 65; refine (l8Asked_any _ _ _).mono ?_; rintro e w' ⟨rfl, rfl⟩)
    refine bodyPost_ret (v := blkRes (0, 0, false)) (by simp [results, Try.results26, go_sem, blkRes]) rfl ⟨by rw [HP.out], fnew (frefl _) _⟩
  · obtain ⟨⟨g1, g2⟩, g3, g4⟩ := askB_iff.1 ha
    have HA := Lib.hid ha
    rcases hL : fits m c with _ | ⟨x, l⟩
    · have HP := Lib.hid (pickF_nil (g := headI) hL)
      have HL := Lib.hid hL
      clear hL
      go_enter Try.func26, Try.ntmps26
      go_wp2_with (go_at_call 65; refine (l8Asked_any _ _ _).mono ?_; rintro e w' ⟨rfl, rfl⟩)
      refine (l8Fits_any _ _ _ g3 g4).mono ?_; rintro e w1 ⟨p, cap, rfl, ho, hb⟩
      rw [HL.out] at ho ⊢
      have c0 : w1.cell? ⟨w.heap.size, 0, none⟩ = some (.int .i64 0) := box hb 0 rfl
      have c1 : w1.cell? ⟨w.heap.size, 1, none⟩ = some (.int .i64 0) := box hb 1 rfl
      have f0 := boxf hb 0
      have f1 := boxf hb 1
      go_wp2
      refine bodyPost_ret (v := blkRes (0, 0, false)) (by simp [results, Try.results26, go_sem, blkRes, c0, c1]) rfl ⟨by rw [HP.out], fset (fset (fstep (fnew (frefl _) _) hb) (Nat.le_refl _) _) (Nat.le_refl _) _⟩
    · have HP := Lib.hid (pickF_some (g := headI) HA.out hL)
      have hlen := congrArg List.length hL
      simp only [List.length_cons] at hlen
      have hbd : l.length + 1 ≤ 25 := by rw [← hlen]; unfold fits; have := fitsTo_len m c (25 - c).toNat; omega
      clear hlen
      have HL := Lib.hid hL
      clear hL
      go_enter Try.func26, Try.ntmps26
      go_wp2_with (go_at_call 65; refine (l8Asked_any _ _ _).mono ?_; rintro e w' ⟨rfl, rfl⟩)
      refine (l8Fits_any _ _ _ g3 g4).mono ?_; rintro e w1 ⟨p, cap, rfl, ho, hb1⟩
      rw [HL.out]
      go_wp2_with fail
      refine (l8Fits_any _ _ _ g3 g4).mono ?_; rintro e w2 ⟨p2, cap2, rfl, ho2, hb2⟩
      rw [HL.out] at ho2 ⊢
      have hb := fstep hb1 hb2
      obtain ⟨b, off, rfl, hc⟩ := Own.ints (L := x :: l) ho2 |>.at0
      have c0 : w2.cell? ⟨w.heap.size, 0, none⟩ = some (.int .i64 0) := box hb 0 rfl
      have c1 : w2.cell? ⟨w.heap.size, 1, none⟩ = some (.int .i64 0) := box hb 1 rfl
      have f0 := boxf hb 0
      have f1 := boxf hb 1
      go_wp2
      refine bodyPost_ret (v := blkRes (x, c, true)) (by simp [results, Try.results26, go_sem, blkRes, c0, c1]) rfl ⟨by rw [HP.out]; rfl, fset (fset (fstep (fnew (frefl _) _) hb) (Nat.le_refl _) _) (Nat.le_refl _) _⟩

set_option maxHeartbeats 1000000 in
theorem specLastFit_any (m c : Int) (w : World) :
    Calls Try.prog 29 #[.int .i64 m, .int .i64 c] w fun e w' => e = .returned (blkRes (pickF lastI m c)) ∧ Fresh w w' := by
  cases ha : askB m c
  · have HP := Lib.hid (pickF_no (g := lastI) ha)
    go_enter Try.func29, Try.ntmps29
    go_wp2_with (go_at_call 65; refine (l8Asked_any _ _ _).mono ?_; rintro e w' ⟨rfl, rfl⟩)
    refine bodyPost_ret (v := blkRes (0, 0, false)) (by simp [results, Try.results29, go_sem, blkRes]) rfl ⟨by rw [HP.out], fnew (frefl _) _⟩
  · obtain ⟨⟨g1, g2⟩, g3, g4⟩ := askB_iff.1 ha
    have HA := Lib.hid ha
    rcases hL : fits m c with _ | ⟨x, l⟩
    · have HP := Lib.hid (pickF_nil (g := lastI) hL)
      have HL := Lib.hid hL
      clear hL
      go_enter Try.func29, Try.ntmps29
      go_wp2_with (go_at_call 65; refine (l8Asked_any _ _ _).mono ?_; rintro e w' ⟨rfl, rfl⟩)
      refine (l8Fits_any _ _ _ g3 g4).mono ?_; rintro e w1 ⟨p, cap, rfl, ho, hb⟩
      rw [HL.out] at ho ⊢
      have c0 : w1.cell? ⟨w.heap.size, 0, none⟩ = some (.int .i64 0) := box hb 0 rfl
      have c1 : w1.cell? ⟨w.heap.size, 1, none⟩ = some (.int .i64 0) := box hb 1 rfl
      have f0 := boxf hb 0
      have f1 := boxf hb 1
      go_wp2
      refine bodyPost_ret (v := blkRes (0, 0, false)) (by simp [results, Try.results29, go_sem, blkRes, c0, c1]) rfl ⟨by rw [HP.out], fset (fset (fstep (fnew (frefl _) _) hb) (Nat.le_refl _) _) (Nat.le_refl _) _⟩
    · have HP := Lib.hid (pickF_some (g := lastI) HA.out hL)
      have hlen := congrArg List.length hL
      simp only [List.length_cons] at hlen
      have hbd : l.length + 1 ≤ 25 := by rw [← hlen]; unfold fits; have := fitsTo_len m c (25 - c).toNat; omega
      clear hlen
      have HL := Lib.hid hL
      clear hL
      go_enter Try.func29, Try.ntmps29
      go_wp2_with (go_at_call 65; refine (l8Asked_any _ _ _).mono ?_; rintro e w' ⟨rfl, rfl⟩)
      refine (l8Fits_any _ _ _ g3 g4).mono ?_; rintro e w1 ⟨p, cap, rfl, ho, hb1⟩
      rw [HL.out]
      go_wp2_with fail
      refine (l8Fits_any _ _ _ g3 g4).mono ?_; rintro e w2 ⟨p2, cap2, rfl, ho2, hb2⟩
      rw [HL.out] at ho2 ⊢
      have hb := fstep hb1 hb2
      obtain ⟨b, off, y, rfl, hy, hc⟩ := Own.ints (L := x :: l) ho2 |>.at (k := l.length) (by simp)
      have HY := Lib.hid hy
      clear hy
      have c0 : w2.cell? ⟨w.heap.size, 0, none⟩ = some (.int .i64 0) := box hb 0 rfl
      have c1 : w2.cell? ⟨w.heap.size, 1, none⟩ = some (.int .i64 0) := box hb 1 rfl
      have f0 := boxf hb 0
      have f1 := boxf hb 1
      go_wp2
      refine bodyPost_ret (v := blkRes (y, c, true)) (by simp [results, Try.results29, go_sem, blkRes, c0, c1]) rfl ⟨by rw [HP.out, last_of HY.out], fset (fset (fstep (fnew (frefl _) _) hb) (Nat.le_refl _) _) (Nat.le_refl _) _⟩

set_option maxHeartbeats 400000 in
theorem eqBlock_same (f c : Int) (w : World) :
    Calls Try.prog 28 #[.agg #[.int .i64 f, .int .i64 c], .agg #[.int .i64 f, .int .i64 c]] w fun e w' => e = .returned (.bool true) ∧ Fresh w w' := by
  go_enter Try.func28, Try.ntmps28
  go_wp2
  go_ret
  exact ⟨rfl, fnew (fnew (frefl _) _) _⟩

set_option maxHeartbeats 1000000 in
theorem law_FirstFit (m c : Int) (w : World) (_ : -9223372036854775808 ≤ m ∧ m ≤ 9223372036854775807) (_ : -9223372036854775808 ≤ c ∧ c ≤ 9223372036854775807) :
    Calls Try.prog 6 #[.int .i64 m, .int .i64 c] w fun e w' => e = .returned (.bool true) ∧ Fresh w w' := by
  generalize hr : pickF headI m c = r
  obtain ⟨x, y, ok⟩ := r
  have HR := Lib.hid hr
  clear hr
  go_enter Try.func6, Try.ntmps6
  go_wp2_with fail
  refine (specFirstFit_any _ _ _).mono ?_; rintro e w1 ⟨rfl, hb1⟩
  rw [HR.out]; unfold blkRes
  go_wp2_with fail
  refine (implFirstFit_any _ _ _).mono ?_; rintro e w2 ⟨rfl, hb2⟩
  rw [HR.out]; unfold blkRes
  have c0 : w2.cell? ⟨w1.heap.size, 0, none⟩ = some (.int .i64 x) := box hb2 0 rfl
  have c1 : w2.cell? ⟨w1.heap.size, 1, none⟩ = some (.int .i64 y) := box hb2 1 rfl
  have hz := boxsize hb2
  go_wp2_with fail
  refine (eqBlock_same _ _ _).mono ?_; rintro e w3 ⟨rfl, hb3⟩
  go_wp2
  go_ret
  exact ⟨rfl, fstep hb1 (fstep (fnew (frefl _) _) (fstep hb2 (fstep (fnew (frefl _) _) hb3)))⟩

set_option maxHeartbeats 1000000 in
theorem law_LastFit (m c : Int) (w : World) (_ : -9223372036854775808 ≤ m ∧ m ≤ 9223372036854775807) (_ : -9223372036854775808 ≤ c ∧ c ≤ 9223372036854775807) :
    Calls Try.prog 7 #[.int .i64 m, .int .i64 c] w fun e w' => e = .returned (.bool true) ∧ Fresh w w' := by
  generalize hr : pickF lastI m c = r
  obtain ⟨x, y, ok⟩ := r
  have HR := Lib.hid hr
  clear hr
  go_enter Try.func7, Try.ntmps7
  go_wp2_with fail
  refine (specLastFit_any _ _ _).mono ?_; rintro e w1 ⟨rfl, hb1⟩
  rw [HR.out]; unfold blkRes
  go_wp2_with fail
  refine (implLastFit_any _ _ _).mono ?_; rintro e w2 ⟨rfl, hb2⟩
  rw [HR.out]; unfold blkRes
  have c0 : w2.cell? ⟨w1.heap.size, 0, none⟩ = some (.int .i64 x) := box hb2 0 rfl
  have c1 : w2.cell? ⟨w1.heap.size, 1, none⟩ = some (.int .i64 y) := box hb2 1 rfl
  have hz := boxsize hb2
  go_wp2_with fail
  refine (eqBlock_same _ _ _).mono ?_; rintro e w3 ⟨rfl, hb3⟩
  go_wp2
  go_ret
  exact ⟨rfl, fstep hb1 (fstep (fnew (frefl _) _) (fstep hb2 (fstep (fnew (frefl _) _) hb3)))⟩

end Go.Proofs.Ytkafmhgnbfofjaa
