/- Contracts: assignment by an order: the reference's answer; the program's look at the order. -/
import Derived.Test.YtjaacinngfblkaaGreatAg2
namespace Go.Proofs.YtjaacinngfblkaaGreat
open Go.RowKit Go.PlainAid

def okAt (s : List Int) (n k : Nat) : Bool := match s[k]? with | some x => inB x 0 ((n : Int) - 1) && (decide (k = 0) || (match s[k - 1]? with | some y => decide (y < x) | none => true)) | none => true
theorem rises_end {s : List Int} {n : Nat} (h : ∀ k, k < s.length → okAt s n k = true) : risesB s n = true := by
  unfold risesB; rw [List.all_eq_true]; intro k hk; exact h k (List.mem_range.1 hk)
theorem rises_bad {s : List Int} {n k : Nat} (hk : k < s.length) (h : okAt s n k = false) : risesB s n = false := by
  unfold risesB; rw [List.all_eq_false]; exact ⟨k, List.mem_range.2 hk, by rw [Bool.not_eq_true]; exact h⟩
theorem okAt_out {s : List Int} {n k : Nat} {x : Int} (hx : s[k]? = some x) (h : inB x 0 ((n : Int) - 1) = false) : okAt s n k = false := by unfold okAt; simp only [hx, h]; rfl
theorem okAt_first {s : List Int} {n : Nat} {x : Int} (hx : s[0]? = some x) (h : inB x 0 ((n : Int) - 1) = true) : okAt s n 0 = true := by unfold okAt; simp only [hx, h]; rfl
theorem okAt_next {s : List Int} {n k : Nat} {x y : Int} (h0 : k ≠ 0) (hx : s[k]? = some x) (hy : s[k - 1]? = some y) (h : inB x 0 ((n : Int) - 1) = true) : okAt s n k = decide (y < x) := by
  unfold okAt; simp only [hx, hy, h, decide_eq_false h0, Bool.false_or, Bool.true_and]

set_option maxHeartbeats 4000000 in
set_option maxRecDepth 100000 in
theorem isSet_any (p : Option Addr) (cap : Nat) (s : List Int) (n : Nat) (w : World) (hI : Ints w p s) (hn : s.length ≤ 1048576) (h7 : n ≤ 1048576) :
    Calls Tryz.prog 75 #[.slice p s.length cap, .int .i64 (n : Int)] w fun e w' => e = .returned (.bool (risesB s n)) ∧ w = w' := by
  obtain ⟨o, ho⟩ : ∃ o : Bool, o = risesB s n := ⟨_, rfl⟩
  have HNO : Hid (∀ k, k < s.length → okAt s n k = false → o = false) := by intro k hk h; rw [ho, rises_bad hk h]
  have HYES : Hid ((∀ k, k < s.length → okAt s n k = true) → o = true) := by intro h; rw [ho, rises_end h]
  rw [← ho]
  have HII := Lib.hid hI
  clear ho hI
  go_enter Tryz.func75, Tryz.ntmps75
  go_wp2
  go_loop [9] (fun j => ∃ k : Nat, k ≤ s.length ∧ j = .int .i64 k ∧ ∀ i, i < k → okAt s n i = true) (fun j => s.length - (intOf j).toNat)
  case atStart => exact ⟨0, Nat.zero_le _, rfl, fun i hi => by omega⟩
  case round =>
    obtain ⟨k, hk, rfl, hall⟩ := hrel
    have HALL := Lib.hid hall
    clear hall
    by_cases hlt : k < s.length
    · have hltz : (k : Int) < (s.length : Int) := by omega
      obtain ⟨b, off, x, rfl, hx, hc0⟩ := HII.out.at hlt
      have HX := Lib.hid hx
      clear hx
      cases hin : inB x 0 ((n : Int) - 1)
      · have HE := Lib.hid (HNO.out k hlt (okAt_out HX.out hin))
        have HIN := Lib.hid (within_any x 0 ((n : Int) - 1) w)
        rw [hin] at HIN
        clear hin
        go_wp2_with fail
        refine (HIN.out).mono ?_
        rintro e w1 ⟨rfl, rfl⟩
        go_wp2
        go_ret
        exact ⟨by rw [HE.out]; rfl, rfl⟩
      · have HIN := Lib.hid (within_any x 0 ((n : Int) - 1) w)
        rw [hin] at HIN
        have HINB := Lib.hid hin
        clear hin
        by_cases h0 : k = 0
        · subst h0
          rw [Nat.add_zero] at hc0
          have HOK := Lib.hid (okAt_first HX.out HINB.out)
          go_wp2_with fail
          refine (HIN.out).mono ?_
          rintro e w1 ⟨rfl, rfl⟩
          go_wp2
          go_round
          case rel => exact ⟨1, by omega, by go_num, fun i hi => by have : i = 0 := by omega
                                                                    subst this; exact HOK.out⟩
          case measure => simp [intOf]; omega
        · have hk1 : k - 1 < s.length := by omega
          obtain ⟨b', off', y, hp', hy, hc1⟩ := HII.out.at hk1
          cases hp'
          have HOK := Lib.hid (okAt_next h0 HX.out hy HINB.out)
          have hkN : 0 < k := by omega
          have hw1 : IntKind.i64.wrap ((k : Int) - 1) = (k : Int) - 1 := by rw [IntKind.wrap_i64]; omega
          have ht1 : ((k : Int) - 1).toNat = k - 1 := by omega
          have hge : (1 : Int) ≤ (k : Int) := by omega
          have hlt1 : (k : Int) - 1 < (s.length : Int) := by omega
          clear hy
          by_cases hyx : y < x
          · have hz : decide (x ≤ y) = false := decide_eq_false (by omega)
            have HOK2 : Hid (okAt s n k = true) := by show _ = _; rw [HOK.out]; exact decide_eq_true hyx
            go_wp2_with fail
            refine (HIN.out).mono ?_
            rintro e w1 ⟨rfl, rfl⟩
            go_wp2
            go_round
            case rel => exact ⟨k + 1, by omega, by go_num, fun i hi => by
              rcases Nat.lt_or_ge i k with h' | h'
              · exact HALL.out i h'
              · have : i = k := by omega
                subst this; exact HOK2.out⟩
            case measure => simp [intOf]; omega
          · have hz : decide (x ≤ y) = true := decide_eq_true (by omega)
            have HE := Lib.hid (HNO.out k hlt (by rw [HOK.out]; exact decide_eq_false hyx))
            go_wp2_with fail
            refine (HIN.out).mono ?_
            rintro e w1 ⟨rfl, rfl⟩
            go_wp2
            go_ret
            exact ⟨by rw [HE.out]; rfl, rfl⟩
    · have hkn : k = s.length := by omega
      have HE := Lib.hid (HYES.out fun i hi => HALL.out i (by omega))
      subst hkn
      go_wp2
      go_ret
      exact ⟨by rw [HE.out]; rfl, rfl⟩
end Go.Proofs.YtjaacinngfblkaaGreat
