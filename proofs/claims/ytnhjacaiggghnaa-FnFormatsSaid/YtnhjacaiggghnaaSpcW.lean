/- The walk of FnSpectrum. -/
import Derived.Test.YtnhjacaiggghnaaSpcD
import Derived.Test.YtnhjacaiggghnaaRuns2
import Derived.Test.YtnhjacaiggghnaaMask
import Derived.Test.YtnhjacaiggghnaaU2
import Derived.Deep.RegionHeld3
namespace Go.Proofs.Ytnhjacaiggghnaa
open Go.RowKit Go.PlainAid

theorem vBig_any (p : Option Addr) (cap : Nat) (n : Nat) (w : World) : Calls Try.prog 5 #[.slice p n cap] w fun e w' => e = .returned (.bool (decide ((65536 : Int) < (n : Int)))) ∧ w = w' := by
  by_cases h : (65536 : Int) < (n : Int)
  · rw [decide_eq_true h]
    go_enter Try.func5, Try.ntmps5
    go_wp2
    go_ret
    exact ⟨rfl, rfl⟩
  · rw [decide_eq_false h]
    go_enter Try.func5, Try.ntmps5
    go_wp2
    go_ret
    exact ⟨rfl, rfl⟩
theorem vHas_any (p : Option Addr) (cap : Nat) (l : List Int) (s : Int) (w : World) (hI : Ints w p l) (hn : l.length ≤ 9223372036854775806) :
    Calls Try.prog 21 #[.slice p l.length cap, .int .i64 s] w fun e w' => e = .returned (.bool (decide (s ∈ l))) ∧ w = w' := by
  go_enter Try.func21, Try.ntmps21
  go_wp2
  go_loop [5] (fun i => ∃ k : Nat, k ≤ l.length ∧ i = .int .i64 k ∧ ∀ j, j < k → l[j]? ≠ some s) (fun i => l.length - (intOf i).toNat)
  case atStart => exact ⟨0, Nat.zero_le _, rfl, fun j hj => by omega⟩
  case round =>
    obtain ⟨k, hk, rfl, hall⟩ := hrel
    have HA := Lib.hid hall
    clear hall
    by_cases hlt : k < l.length
    · obtain ⟨b, off, x, rfl, hx, hc⟩ := hI.at hlt
      have hltz : (k : Int) < (l.length : Int) := by omega
      by_cases he : x = s
      · subst he
        have HM := Lib.hid (List.mem_of_getElem? hx)
        clear hx
        go_wp2
        go_ret
        exact ⟨ret_bool (decide_eq_true HM.out).symm, rfl⟩
      · have HE := Lib.hid (notyet HA.out hx he)
        have hd : (x == s) = false := by simp [he]
        have he' : ¬ s = x := fun h => he h.symm
        clear hx
        go_wp2
        go_round
        case rel => exact ⟨k + 1, by omega, by go_num, HE.out⟩
        case measure => simp [intOf]; omega
    · have hkn : k = l.length := by omega
      have HE : Hid (s ∉ l) := by
        intro hm
        obtain ⟨j, hj⟩ := List.getElem?_of_mem hm
        have := (List.getElem?_eq_some_iff.1 hj).1
        exact HA.out j (by omega) hj
      have hltz : ¬ (k : Int) < (l.length : Int) := by omega
      go_wp2
      go_ret
      exact ⟨ret_bool (decide_eq_false HE.out).symm, rfl⟩
theorem vBits_any (m : Nat) (w : World) (hm : m < 16777216) :
    Calls Try.prog 16 #[.int .i64 (m : Int)] w fun e w' => e = .returned (.int .i64 (pop.cntTo m 24 : Int)) ∧ w = w' := by
  have h63 : m < 2 ^ 63 := Nat.lt_trans hm (by decide)
  go_enter Try.func16, Try.ntmps16
  go_wp2
  go_loop [3, 4] (fun c s => ∃ k : Nat, k ≤ 24 ∧ s = .int .i64 k ∧ c = .int .i64 (pop.cntTo m k : Int)) (fun _ s => 24 - (intOf s).toNat)
  case atStart => exact ⟨0, by omega, rfl, rfl⟩
  case round =>
    obtain ⟨k, hk, rfl, rfl⟩ := hrel
    have hle := pop.cntTo_le m k
    by_cases hlt : k < 24
    · have hd : decide ((k : Int) < 24) = true := decide_eq_true (by omega)
      have ht := and_one m k h63
      have hs : pop.cntTo m (k + 1) = pop.cntTo m k + m / 2 ^ k % 2 := rfl
      have hb : m / 2 ^ k % 2 < 2 := Nat.mod_lt _ (by omega)
      generalize m / 2 ^ k % 2 = b at *
      have HS := Lib.hid hs
      clear hs
      go_wp2
      go_round
      case rel => exact ⟨k + 1, by omega, by go_num, by rw [HS.out]; go_num⟩
      case measure => simp [intOf]; omega
    · have hd : decide ((k : Int) < 24) = false := decide_eq_false (by omega)
      have hk24 : k = 24 := by omega
      subst hk24
      go_wp2
      go_ret
      exact ⟨rfl, rfl⟩
theorem pop_cnt {M : Nat} (hM : M < 16777216) : ∀ {k : Nat}, k ≤ 24 → popTo M k = pop.cntTo M k := by
  intro k
  induction k with
  | zero => intro _; rfl
  | succ k ih =>
    intro hk
    rw [popTo_succ, ih (by omega)]
    show _ = pop.cntTo M k + M / 2 ^ k % 2
    have hb : M / 2 ^ k % 2 < 2 := Nat.mod_lt _ (by omega)
    cases hf : freeS (M : Int) k
    · have h1 : ¬ Fr M k := fun h => by rw [(freeS_iff hM).2 h] at hf; cases hf
      have h2 : M.testBit k = true := by
        cases hb : M.testBit k
        · exact absurd ⟨by omega, hb⟩ h1
        · rfl
      rw [Nat.testBit_eq_decide_div_mod_eq, decide_eq_true_eq] at h2
      rw [h2]; rfl
    · have h1 := ((freeS_iff hM).1 hf).2
      rw [Nat.testBit_eq_decide_div_mod_eq, decide_eq_false_iff_not] at h1
      have : M / 2 ^ k % 2 = 0 := by omega
      rw [this]; rfl
set_option maxHeartbeats 2000000 in
theorem drawFit_any (p : Option Addr) (cap : Nat) (xs : List Int) (w : World) (hC : CodeAt w p xs) :
    Calls Try.prog 12 #[.slice p xs.length cap] w fun e w' => ∃ m c : Int, e = .returned (.tuple #[.int .i64 m, .int .i64 c]) ∧ (-1 ≤ m ∧ m ≤ 16777216) ∧ (-1 ≤ c ∧ c ≤ 25) ∧ Fresh w w' := by
  have HX := Lib.hid hC
  clear hC
  have HD : Hid (Calls Try.prog 30 #[.slice p xs.length cap] w fun e w' => ∃ m c : Int, e = .returned (.tuple #[.int .i64 m, .int .i64 c]) ∧ (-1 ≤ m ∧ m ≤ 16777216) ∧ (-1 ≤ c ∧ c ≤ 25) ∧ Fresh w w') := by
    show Calls _ _ _ _ _
    obtain ⟨W1, hW1⟩ : ∃ W, W = w.alloc (.cells #[.slice p xs.length cap, .int .i64 0, .int .u64 0] 49) := ⟨_, rfl⟩
    have hf1 : Fresh w W1 := by rw [hW1]; exact fnew (frefl _) _
    have hr1 : Cur W1 w.heap.size (.slice p xs.length cap) 0 := ⟨0, by rw [hW1]; exact RowAt.new _ _ _⟩
    have HW1 := Lib.hid hW1
    have HF1 := Lib.hid hf1
    have HR1 := Lib.hid hr1
    clear hW1 hf1 hr1
    go_enter Try.func30, Try.ntmps30
    go_wp2_with fail
    rw [← HW1.out]
    refine (mask_any HX.out HF1.out (Nat.le_refl _) (by omega) (by omega) HR1.out).mono ?_
    rintro e w2 ⟨m, n2, hm, rfl, a2, b2, hc2, hg2⟩
    have f2 := freshGrown HF1.out hg2 (Nat.le_refl _)
    have HC2 := Lib.hid hc2
    clear hc2 hg2
    go_wp2_with fail
    refine (count_any HX.out f2 (Nat.le_refl _) (by omega) (by omega) HC2.out).mono ?_
    rintro e w3 ⟨c, n3, hc, rfl, a3, b3, hc3, hg3⟩
    have f3 := freshGrown f2 hg3 (Nat.le_refl _)
    have HF3 := Lib.hid f3
    clear hc3 hg3
    go_wp2
    go_ret2
    exact ⟨m, c, rfl, hm, hc, HF3.out⟩
  go_enter Try.func12, Try.ntmps12
  go_wp2_with fail
  refine (HD.out).mono ?_
  rintro e w3 ⟨m, c, rfl, hm, hc, hf⟩
  have HF := Lib.hid hf
  clear hf
  go_wp2
  go_ret2
  exact ⟨m, c, rfl, hm, hc, HF.out⟩
theorem sumC_bd {M e : Nat} (he : e ≤ 24) {l : List (Int × Int)} (h : ∀ r ∈ l, RunOk M e r) : ∀ j, 0 ≤ sumC (l.take j) ∧ sumC (l.take j) ≤ 24 * (j : Int) := by
  intro j
  induction j with
  | zero => simp [sumC]
  | succ j ih =>
    rw [List.take_add_one]
    cases hx : l[j]? with
    | none => simp only [Option.toList_none, List.append_nil]; omega
    | some r =>
      obtain ⟨f, c, rfl, a1, a2, _⟩ := h r (List.mem_of_getElem? hx)
      simp only [Option.toList_some, sumC_snoc]
      omega
end Go.Proofs.Ytnhjacaiggghnaa
