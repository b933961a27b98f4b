/- Contracts: finding an int in a list. -/
import Derived.Test.YtjlhjkdmpngkbaaStr
namespace Go.Proofs.Ytjlhjkdmpngkbaa
open Go.RowKit

set_option maxHeartbeats 1000000 in
theorem l1Has_any (p : Option Addr) (cap : Nat) (l : List Int) (s : Int) (w : World) (hI : Ints w p l) (hn : l.length ≤ 9223372036854775806) :
    Calls Try.prog 95 #[.slice p l.length cap, .int .i64 s] w fun e w' => e = .returned (.bool (decide (s ∈ l))) ∧ w = w' := by
  go_enter Try.func95, Try.ntmps95
  go_wp2
  go_loop [5] (fun i => ∃ k : Nat, k ≤ l.length ∧ i = .int .i64 k ∧ ∀ j, j < k → l[j]? ≠ some s) (fun i => l.length - (intOf i).toNat)
  case atStart => exact ⟨0, Nat.zero_le _, rfl, fun j hj => by omega⟩
  case round =>
    obtain ⟨k, hk, rfl, hall⟩ := hrel
    have HA := Lib.hid hall
    clear hall
    by_cases hlt : k < l.length
    · obtain ⟨b, off, x, rfl, hx, hc⟩ := hI.at hlt
      have hltz : (k : Int) < (l.length : Int) := by omega
      by_cases he : x = s
      · subst he
        have HE := Lib.hid (idxL_at HA.out hx)
        have HM := Lib.hid (List.mem_of_getElem? hx)
        clear hx
        go_wp2
        go_ret
        exact ⟨ret_bool (decide_eq_true HM.out).symm, rfl⟩
      · have HE := Lib.hid (notyet HA.out hx he)
        have hd : (x == s) = false := by simp [he]
        have he' : ¬ s = x := fun h => he h.symm
        clear hx
        go_wp2
        go_round
        case rel => exact ⟨k + 1, by omega, by go_num, HE.out⟩
        case measure => simp [intOf]; omega
    · have hkn : k = l.length := by omega
      have HE := Lib.hid (idxL_none (l := l) (s := s) (by rw [← hkn]; exact HA.out))
      have hltz : ¬ (k : Int) < (l.length : Int) := by omega
      go_wp2
      go_ret
      exact ⟨ret_bool (decide_eq_false (fun hm => by have := (idxL_mem l s).2 hm; rw [HE.out] at this; omega)).symm, rfl⟩

set_option maxHeartbeats 1000000 in
theorem indexI_any (p : Option Addr) (cap : Nat) (l : List Int) (s : Int) (w : World) (hI : Ints w p l) (hn : l.length ≤ 9223372036854775806) :
    Calls Try.prog 97 #[.slice p l.length cap, .int .i64 s] w fun e w' => e = .returned (.int .i64 (idxL l s)) ∧ w = w' := by
  go_enter Try.func97, Try.ntmps97
  go_wp2
  go_loop [5, 8] (fun _ i => ∃ k : Nat, k ≤ l.length ∧ i = .int .i64 k ∧ ∀ j, j < k → l[j]? ≠ some s) (fun _ i => l.length - (intOf i).toNat)
  case atStart => exact ⟨0, Nat.zero_le _, rfl, fun j hj => by omega⟩
  case round =>
    obtain ⟨k, hk, rfl, hall⟩ := hrel
    have HA := Lib.hid hall
    clear hall
    by_cases hlt : k < l.length
    · obtain ⟨b, off, x, rfl, hx, hc⟩ := hI.at hlt
      have hltz : (k : Int) < (l.length : Int) := by omega
      by_cases he : x = s
      · subst he
        have HE := Lib.hid (idxL_at HA.out hx)
        have HM := Lib.hid (List.mem_of_getElem? hx)
        clear hx
        go_wp2
        go_ret
        exact ⟨ret_int HE.out.symm, rfl⟩
      · have HE := Lib.hid (notyet HA.out hx he)
        have hd : (s == x) = false := by simp; exact fun h => he h.symm
        have he' : ¬ s = x := fun h => he h.symm
        clear hx
        go_wp2
        go_round
        case rel => exact ⟨k + 1, by omega, by go_num, HE.out⟩
        case measure => simp [intOf]; omega
    · have hkn : k = l.length := by omega
      have HE := Lib.hid (idxL_none (l := l) (s := s) (by rw [← hkn]; exact HA.out))
      have hltz : ¬ (k : Int) < (l.length : Int) := by omega
      go_wp2
      go_ret
      exact ⟨ret_int HE.out.symm, rfl⟩

set_option maxHeartbeats 400000 in
theorem containsI_any (p : Option Addr) (cap : Nat) (l : List Int) (s : Int) (w : World) (hI : Ints w p l) (hn : l.length ≤ 9223372036854775806) :
    Calls Try.prog 146 #[.slice p l.length cap, .int .i64 s] w fun e w' => e = .returned (.bool (decide (s ∈ l))) ∧ w = w' := by
  have HI := Lib.hid hI
  have HE : Hid (decide (0 ≤ idxL l s) = decide (s ∈ l)) := by show decide (0 ≤ idxL l s) = decide (s ∈ l); exact decide_eq_decide.2 (idxL_mem l s)
  go_enter Try.func146, Try.ntmps146
  go_wp2_with (go_at_call 97; refine (indexI_any _ _ _ _ _ HI.out hn).mono ?_; rintro e w' ⟨rfl, rfl⟩)
  go_ret
  exact ⟨ret_bool HE.out, rfl⟩
end Go.Proofs.Ytjlhjkdmpngkbaa
