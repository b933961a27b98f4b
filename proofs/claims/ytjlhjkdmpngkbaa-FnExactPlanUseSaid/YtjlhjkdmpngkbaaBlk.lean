/- Contracts of the functions on blocks. -/
import Derived.Test.YtjlhjkdmpngkbaaRange
namespace Go.Proofs.Ytjlhjkdmpngkbaa
open Go.RowKit

/-- A block is good. -/
def goodB (f c : Int) : Bool := inB f 0 23 && inB c 1 (24 - f)
theorem goodB_iff {f c : Int} : goodB f c = true ↔ 0 ≤ f ∧ 1 ≤ c ∧ f + c ≤ 24 := by simp only [goodB, inB, Bool.and_eq_true, decide_eq_true_eq]; omega

set_option maxHeartbeats 400000 in
theorem l8Good_any (f c : Int) (w : World) :
    Calls Try.prog 161 #[.agg #[.int .i64 f, .int .i64 c]] w fun e w' => e = .returned (.bool (goodB f c)) ∧ Fresh w w' := by
  by_cases h1 : 0 ≤ f ∧ f ≤ 23
  · obtain ⟨ha, hb⟩ := h1
    have e1 : inB f 0 23 = true := inB_t ha hb
    go_enter Try.func161, Try.ntmps161
    go_wp2_with (go_at_call 143; refine (l1In_any _ _ _ _).mono ?_; rintro e w' ⟨rfl, rfl⟩)
    go_ret
    exact ⟨by simp [goodB, e1], (Below.refl _ _).alloc (Nat.le_refl _) _⟩
  · have e1 : inB f 0 23 = false := inB_f h1
    go_enter Try.func161, Try.ntmps161
    go_wp2_with (go_at_call 143; refine (l1In_any _ _ _ _).mono ?_; rintro e w' ⟨rfl, rfl⟩)
    go_ret
    exact ⟨by simp [goodB, e1], (Below.refl _ _).alloc (Nat.le_refl _) _⟩

set_option maxHeartbeats 400000 in
theorem implIsValidBlock_any (f c : Int) (w : World) :
    Calls Try.prog 120 #[.agg #[.int .i64 f, .int .i64 c]] w fun e w' => e = .returned (.bool (goodB f c)) ∧ Fresh w w' := by
  by_cases h1 : 0 ≤ f
  · by_cases h2 : 1 ≤ c ∧ c ≤ 24
    · obtain ⟨ha, hb⟩ := h2
      have e2 : inB c 1 24 = true := inB_t ha hb
      by_cases h3 : f ≤ 24 - c
      · have e3 : goodB f c = true := goodB_iff.2 ⟨h1, ha, by omega⟩
        go_enter Try.func120, Try.ntmps120
        go_wp2_with (go_at_call 91; refine (within_any _ _ _ _).mono ?_; rintro e w' ⟨rfl, rfl⟩)
        go_ret
        exact ⟨ret_bool (by first | rfl | (rw [e3]; first | rfl | (simp; done) | (simp; omega)) | (simp; omega)), fnew (frefl _) _⟩
      · have e3 : goodB f c = false := by rw [Bool.eq_false_iff, ne_eq, goodB_iff]; omega
        go_enter Try.func120, Try.ntmps120
        go_wp2_with (go_at_call 91; refine (within_any _ _ _ _).mono ?_; rintro e w' ⟨rfl, rfl⟩)
        go_ret
        exact ⟨ret_bool (by first | rfl | (rw [e3]; first | rfl | (simp; done) | (simp; omega)) | (simp; omega)), fnew (frefl _) _⟩
    · have e2 : inB c 1 24 = false := inB_f h2
      have e3 : goodB f c = false := by rw [Bool.eq_false_iff, ne_eq, goodB_iff]; omega
      go_enter Try.func120, Try.ntmps120
      go_wp2_with (go_at_call 91; refine (within_any _ _ _ _).mono ?_; rintro e w' ⟨rfl, rfl⟩)
      go_ret
      exact ⟨ret_bool (by first | rfl | (rw [e3]; first | rfl | (simp; done) | (simp; omega)) | (simp; omega)), fnew (frefl _) _⟩
  · have e3 : goodB f c = false := by rw [Bool.eq_false_iff, ne_eq, goodB_iff]; omega
    go_enter Try.func120, Try.ntmps120
    go_wp2_with (go_at_call 91; refine (within_any _ _ _ _).mono ?_; rintro e w' ⟨rfl, rfl⟩)
    go_ret
    exact ⟨ret_bool (by first | rfl | (rw [e3]; first | rfl | (simp; done) | (simp; omega)) | (simp; omega)), fnew (frefl _) _⟩

set_option maxHeartbeats 400000 in
theorem toBlock_any (f c : Int) (w : World) :
    Calls Try.prog 111 #[.agg #[.int .i64 f, .int .i64 c]] w fun e w' => e = .returned (.agg #[.int .i64 f, .int .i64 c]) ∧ Fresh w w' := by
  go_enter Try.func111, Try.ntmps111
  go_wp2
  refine bodyPost_ret (v := .agg #[.int .i64 f, .int .i64 c]) (by simp [results, Try.results111, go_sem]) rfl ⟨rfl, ?_⟩
  repeat (first | exact frefl _ | apply fnew | (refine fset ?_ (by simp) _))


end Go.Proofs.Ytjlhjkdmpngkbaa
