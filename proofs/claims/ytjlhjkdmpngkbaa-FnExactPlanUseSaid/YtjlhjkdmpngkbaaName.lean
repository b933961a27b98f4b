/- Contracts: ranges and names, on both sides. -/
import Derived.Test.YtjlhjkdmpngkbaaRange
import Derived.PlainAid
namespace Go.Proofs.Ytjlhjkdmpngkbaa
open Go.RowKit Go.PlainAid

def letB (x : Int) : Bool := inB x 97 122
def digB (x : Int) : Bool := inB x 48 57
/-- A letter, or a digit that does not come first. -/
def okC (s : ByteArray) (k : Nat) : Bool := letB (bt s k) || (digB (bt s k) && !decide (k = 0))
/-- A name. -/
def nameB (s : ByteArray) : Bool := (List.range s.size).all (okC s) && inB s.size 1 8
theorem nameB_bad {s : ByteArray} {k : Nat} (hk : k < s.size) (h : okC s k = false) : nameB s = false := by
  unfold nameB
  have : (List.range s.size).all (okC s) = false := by rw [List.all_eq_false]; exact ⟨k, List.mem_range.2 hk, by simp [h]⟩
  rw [this, Bool.false_and]
theorem nameB_end {s : ByteArray} (h : ∀ k, k < s.size → okC s k = true) : nameB s = inB s.size 1 8 := by
  unfold nameB
  have : (List.range s.size).all (okC s) = true := by rw [List.all_eq_true]; intro k hk; exact h k (List.mem_range.1 hk)
  rw [this, Bool.true_and]
theorem nameB_size {s : ByteArray} (h : inB s.size 1 8 = false) : nameB s = false := by unfold nameB; rw [h, Bool.and_false]
theorem okStepC {f : Nat → Bool} {k : Nat} (h : ∀ j, j < k → f j = true) (hk : f k = true) : ∀ j, j < k + 1 → f j = true := by
  intro j hj
  rcases Nat.lt_or_ge j k with h' | h'
  · exact h j h'
  · have : j = k := by omega
    subst this; exact hk

set_option maxHeartbeats 400000 in
theorem l2Sign_any (x : Int) (w : World) :
    Calls Try.prog 182 #[.int .u8 x] w fun e w' => e = .returned (.bool (letB x || digB x)) ∧ w = w' := by
  by_cases h1 : 97 ≤ x
  · by_cases h2 : x ≤ 122
    · have HE : Hid ((letB x || digB x) = true) := by show (letB x || digB x) = true; simp [letB, inB_t h1 h2]
      go_enter Try.func182, Try.ntmps182
      go_wp2
      go_ret
      exact ⟨ret_bool HE.out.symm, rfl⟩
    · have HE : Hid ((letB x || digB x) = false) := by show (letB x || digB x) = false; rw [show letB x = false from inB_f (by omega), show digB x = false from inB_f (by omega)]; rfl
      have h3 : 48 ≤ x := by omega
      have h4 : ¬ x ≤ 57 := by omega
      go_enter Try.func182, Try.ntmps182
      go_wp2
      go_ret
      exact ⟨ret_bool HE.out.symm, rfl⟩
  · by_cases h3 : 48 ≤ x
    · by_cases h4 : x ≤ 57
      · have HE : Hid ((letB x || digB x) = true) := by show (letB x || digB x) = true; simp [digB, inB_t h3 h4]
        go_enter Try.func182, Try.ntmps182
        go_wp2
        go_ret
        exact ⟨ret_bool HE.out.symm, rfl⟩
      · have HE : Hid ((letB x || digB x) = false) := by show (letB x || digB x) = false; rw [show letB x = false from inB_f (by omega), show digB x = false from inB_f (by omega)]; rfl
        go_enter Try.func182, Try.ntmps182
        go_wp2
        go_ret
        exact ⟨ret_bool HE.out.symm, rfl⟩
    · have HE : Hid ((letB x || digB x) = false) := by show (letB x || digB x) = false; rw [show letB x = false from inB_f (by omega), show digB x = false from inB_f (by omega)]; rfl
      go_enter Try.func182, Try.ntmps182
      go_wp2
      go_ret
      exact ⟨ret_bool HE.out.symm, rfl⟩

set_option maxHeartbeats 1000000 in
theorem l2Name_any (s : ByteArray) (w : World) (hs : s.size ≤ 9223372036854775807) :
    Calls Try.prog 157 #[.string s] w fun e w' => e = .returned (.bool (nameB s)) ∧ w = w' := by
  have kb := get_bt s
  cases h0 : inB s.size 1 8
  · have HN := Lib.hid (nameB_size h0)
    go_enter Try.func157, Try.ntmps157
    go_wp2_with (go_at_call 143; refine (l1In_any _ _ _ _).mono ?_; rintro e w' ⟨rfl, rfl⟩)
    go_ret
    exact ⟨ret_bool HN.out.symm, rfl⟩
  · obtain ⟨s1, s2⟩ := inB_iff.1 h0
    have hpos : 0 < s.size := by omega
    by_cases h1 : bt s 0 < 97
    · have HN := Lib.hid (nameB_bad (s := s) hpos (by unfold okC; rw [show letB (bt s 0) = false from inB_f (by omega)]; simp))
      go_enter Try.func157, Try.ntmps157
      go_wp2_with (go_at_call 143; refine (l1In_any _ _ _ _).mono ?_; rintro e w' ⟨rfl, rfl⟩)
      go_ret
      exact ⟨ret_bool HN.out.symm, rfl⟩
    · by_cases h2 : 122 < bt s 0
      · have HN := Lib.hid (nameB_bad (s := s) hpos (by unfold okC; rw [show letB (bt s 0) = false from inB_f (by omega)]; simp))
        go_enter Try.func157, Try.ntmps157
        go_wp2_with (go_at_call 143; refine (l1In_any _ _ _ _).mono ?_; rintro e w' ⟨rfl, rfl⟩)
        go_ret
        exact ⟨ret_bool HN.out.symm, rfl⟩
      · have H0 : Hid (letB (bt s 0) = true) := inB_t (by omega) (by omega)
        have HI := Lib.hid h0
        have hd1 : decide (bt s 0 < 97) = false := decide_eq_false h1
        have hd2 : decide (122 < bt s 0) = false := decide_eq_false h2
        go_enter Try.func157, Try.ntmps157
        go_wp2_with (go_at_call 143; refine (l1In_any _ _ _ _).mono ?_; rintro e w' ⟨rfl, rfl⟩)
        go_loop [3] (fun i => ∃ k : Nat, k ≤ s.size ∧ i = .int .i64 k ∧ ∀ j, j < k → okC s j = true) (fun i => s.size - (intOf i).toNat)
        case atStart => exact ⟨0, Nat.zero_le _, rfl, fun j hj => by omega⟩
        case round =>
          obtain ⟨k, hk, rfl, hall⟩ := hrel
          have HA := Lib.hid hall
          clear hall
          by_cases hlt : k < s.size
          · cases hsg : (letB (bt s k) || digB (bt s k))
            · have HN := Lib.hid (nameB_bad (s := s) hlt (by unfold okC; rw [Bool.or_eq_false_iff] at hsg; rw [hsg.1, hsg.2]; rfl))
              go_wp2_with (go_at_call 182; refine (l2Sign_any _ _).mono ?_; rintro e w' ⟨rfl, rfl⟩)
              go_ret
              exact ⟨ret_bool HN.out.symm, rfl⟩
            · have HK : Hid (okC s k = true) := by
                show okC s k = true
                unfold okC
                by_cases hz : k = 0
                · rw [hz, H0.out]; rfl
                · rw [show (!decide (k = 0)) = true by simp [hz], Bool.and_true]; exact hsg
              go_wp2_with (go_at_call 182; refine (l2Sign_any _ _).mono ?_; rintro e w' ⟨rfl, rfl⟩)
              go_round
              case rel => exact ⟨k + 1, by omega, by go_num, okStepC HA.out HK.out⟩
              case measure => simp [intOf]; omega
          · have hkn : k = s.size := by omega
            have HN := Lib.hid (nameB_end (s := s) (by rw [← hkn]; exact HA.out))
            subst hkn
            go_wp2
            go_ret
            exact ⟨ret_bool (by rw [HN.out, HI.out]), rfl⟩
end Go.Proofs.Ytjlhjkdmpngkbaa
