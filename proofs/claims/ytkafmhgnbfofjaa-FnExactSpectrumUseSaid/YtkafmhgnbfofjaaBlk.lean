/- Contracts of the functions on blocks and ranges. -/
import Derived.Test.YtkafmhgnbfofjaaBase
namespace Go.Proofs.Ytkafmhgnbfofjaa
open Go.RowKit

set_option maxHeartbeats 400000 in
theorem l1In_any (x a b : Int) (w : World) :
    Calls Try.prog 74 #[.int .i64 x, .int .i64 a, .int .i64 b] w fun e w' => e = .returned (.bool (inB x a b)) ∧ w = w' := by
  by_cases h1 : a ≤ x
  · by_cases h2 : x ≤ b
    · go_enter Try.func74, Try.ntmps74
      go_wp2
      go_ret
      exact ⟨by rw [inB_t h1 h2]; rfl, rfl⟩
    · go_enter Try.func74, Try.ntmps74
      go_wp2
      go_ret
      exact ⟨by rw [inB_f (by omega)]; rfl, rfl⟩
  · go_enter Try.func74, Try.ntmps74
    go_wp2
    go_ret
    exact ⟨by rw [inB_f (by omega)]; rfl, rfl⟩

set_option maxHeartbeats 400000 in
theorem within_any (x a b : Int) (w : World) :
    Calls Try.prog 60 #[.int .i64 x, .int .i64 a, .int .i64 b] w fun e w' => e = .returned (.bool (inB x a b)) ∧ w = w' := by
  by_cases h1 : a ≤ x
  · by_cases h2 : x ≤ b
    · go_enter Try.func60, Try.ntmps60
      go_wp2
      go_ret
      exact ⟨by rw [inB_t h1 h2]; rfl, rfl⟩
    · go_enter Try.func60, Try.ntmps60
      go_wp2
      go_ret
      exact ⟨by rw [inB_f (by omega)]; rfl, rfl⟩
  · go_enter Try.func60, Try.ntmps60
    go_wp2
    go_ret
    exact ⟨by rw [inB_f (by omega)]; rfl, rfl⟩

/-- A block is good. -/
def goodB (f c : Int) : Bool := inB f 0 23 && inB c 1 (24 - f)
theorem goodB_iff {f c : Int} : goodB f c = true ↔ 0 ≤ f ∧ 1 ≤ c ∧ f + c ≤ 24 := by simp only [goodB, inB, Bool.and_eq_true, decide_eq_true_eq]; omega

set_option maxHeartbeats 400000 in
theorem l8Good_any (f c : Int) (w : World) :
    Calls Try.prog 59 #[.agg #[.int .i64 f, .int .i64 c]] w fun e w' => e = .returned (.bool (goodB f c)) ∧ Fresh w w' := by
  by_cases h1 : 0 ≤ f ∧ f ≤ 23
  · obtain ⟨ha, hb⟩ := h1
    have e1 : inB f 0 23 = true := inB_t ha hb
    go_enter Try.func59, Try.ntmps59
    go_wp2_with (go_at_call 74; refine (l1In_any _ _ _ _).mono ?_; rintro e w' ⟨rfl, rfl⟩)
    go_ret
    exact ⟨by simp [goodB, e1], (Below.refl _ _).alloc (Nat.le_refl _) _⟩
  · have e1 : inB f 0 23 = false := inB_f h1
    go_enter Try.func59, Try.ntmps59
    go_wp2_with (go_at_call 74; refine (l1In_any _ _ _ _).mono ?_; rintro e w' ⟨rfl, rfl⟩)
    go_ret
    exact ⟨by simp [goodB, e1], (Below.refl _ _).alloc (Nat.le_refl _) _⟩

set_option maxHeartbeats 400000 in
theorem specIsValidBlock_any (f c : Int) (w : World) :
    Calls Try.prog 17 #[.agg #[.int .i64 f, .int .i64 c]] w fun e w' => e = .returned (.bool (goodB f c)) ∧ Fresh w w' := by
  go_enter Try.func17, Try.ntmps17
  go_wp2_with (go_at_call 59; refine (l8Good_any _ _ _).mono ?_; rintro e w1 ⟨rfl, hb⟩)
  go_ret
  exact ⟨rfl, fstep (fnew (frefl _) _) hb⟩

set_option maxHeartbeats 400000 in
theorem implIsValidBlock_any (f c : Int) (w : World) :
    Calls Try.prog 19 #[.agg #[.int .i64 f, .int .i64 c]] w fun e w' => e = .returned (.bool (goodB f c)) ∧ Fresh w w' := by
  by_cases h1 : 0 ≤ f
  · by_cases h2 : 1 ≤ c ∧ c ≤ 24
    · obtain ⟨ha, hb⟩ := h2
      have e2 : inB c 1 24 = true := inB_t ha hb
      by_cases h3 : f ≤ 24 - c
      · have e3 : goodB f c = true := goodB_iff.2 ⟨h1, ha, by omega⟩
        go_enter Try.func19, Try.ntmps19
        go_wp2_with (go_at_call 60; refine (within_any _ _ _ _).mono ?_; rintro e w' ⟨rfl, rfl⟩)
        go_ret
        exact ⟨ret_bool (by first | rfl | (rw [e3]; first | rfl | (simp; done) | (simp; omega)) | (simp; omega)), fnew (frefl _) _⟩
      · have e3 : goodB f c = false := by rw [Bool.eq_false_iff, ne_eq, goodB_iff]; omega
        go_enter Try.func19, Try.ntmps19
        go_wp2_with (go_at_call 60; refine (within_any _ _ _ _).mono ?_; rintro e w' ⟨rfl, rfl⟩)
        go_ret
        exact ⟨ret_bool (by first | rfl | (rw [e3]; first | rfl | (simp; done) | (simp; omega)) | (simp; omega)), fnew (frefl _) _⟩
    · have e2 : inB c 1 24 = false := inB_f h2
      have e3 : goodB f c = false := by rw [Bool.eq_false_iff, ne_eq, goodB_iff]; omega
      go_enter Try.func19, Try.ntmps19
      go_wp2_with (go_at_call 60; refine (within_any _ _ _ _).mono ?_; rintro e w' ⟨rfl, rfl⟩)
      go_ret
      exact ⟨ret_bool (by first | rfl | (rw [e3]; first | rfl | (simp; done) | (simp; omega)) | (simp; omega)), fnew (frefl _) _⟩
  · have e3 : goodB f c = false := by rw [Bool.eq_false_iff, ne_eq, goodB_iff]; omega
    go_enter Try.func19, Try.ntmps19
    go_wp2_with (go_at_call 60; refine (within_any _ _ _ _).mono ?_; rintro e w' ⟨rfl, rfl⟩)
    go_ret
    exact ⟨ret_bool (by first | rfl | (rw [e3]; first | rfl | (simp; done) | (simp; omega)) | (simp; omega)), fnew (frefl _) _⟩

set_option maxHeartbeats 400000 in
theorem toBlock_any (f c : Int) (w : World) :
    Calls Try.prog 18 #[.agg #[.int .i64 f, .int .i64 c]] w fun e w' => e = .returned (.agg #[.int .i64 f, .int .i64 c]) ∧ Fresh w w' := by
  go_enter Try.func18, Try.ntmps18
  go_wp2
  refine bodyPost_ret (v := .agg #[.int .i64 f, .int .i64 c]) (by simp [results, Try.results18, go_sem]) rfl ⟨rfl, ?_⟩
  repeat (first | exact frefl _ | apply fnew | (refine fset ?_ (by simp) _))

set_option maxHeartbeats 400000 in
theorem law_IsValidBlock (f c : Int) (w : World) :
    Calls Try.prog 3 #[.agg #[.int .i64 f, .int .i64 c]] w fun e w' => e = .returned (.bool true) ∧ Fresh w w' := by
  go_enter Try.func3, Try.ntmps3
  go_wp2_with fail
  refine (toBlock_any _ _ _).mono ?_; rintro e w1 ⟨rfl, hb1⟩
  go_wp2_with fail
  refine (specIsValidBlock_any _ _ _).mono ?_; rintro e w2 ⟨rfl, hb2⟩
  have hb := fstep hb1 hb2
  have c0 := box hb 0 rfl
  have c1 := box hb 1 rfl
  go_wp2_with fail
  refine (toBlock_any _ _ _).mono ?_; rintro e w3 ⟨rfl, hb3⟩
  go_wp2_with fail
  refine (implIsValidBlock_any _ _ _).mono ?_; rintro e w4 ⟨rfl, hb4⟩
  go_wp2
  go_ret
  exact ⟨rfl, fstep (fnew (frefl _) _) (fstep hb (fstep hb3 hb4))⟩
end Go.Proofs.Ytkafmhgnbfofjaa
