/- Contracts: FreeRuns on both sides; lists of blocks compared, marked; the walk of the law. -/
import Derived.Test.YtkafmhgnbfofjaaRuns
import Derived.Test.YtkafmhgnbfofjaaFit2
namespace Go.Proofs.Ytkafmhgnbfofjaa
open Go.RowKit

set_option maxHeartbeats 1000000 in
theorem eqBlockS_same (p q : Option Addr) (c d : Nat) (l : List (Int × Int)) (w : World) (hx : Prs w p l) (hy : Prs w q l) (hn : l.length ≤ 1099511627776) :
    Calls Try.prog 46 #[.slice p l.length c, .slice q l.length d] w fun e w' => e = .returned (.bool true) ∧ Fresh w w' := by
  go_enter Try.func46, Try.ntmps46
  go_wp2
  go_loopw [5] (fun i wr => ∃ k : Nat, k ≤ l.length ∧ i = .int .i64 k ∧ Fresh w wr) (fun i _ => l.length - (intOf i).toNat)
  case atStart => exact ⟨0, Nat.zero_le _, rfl, frefl _⟩
  case round =>
    obtain ⟨k, hk, rfl, hf⟩ := hrel
    by_cases hlt : k < l.length
    · obtain ⟨b, off, x, y, rfl, hx0, hc0, hc1⟩ := hx.at hlt
      obtain ⟨b', off', x', y', rfl, hy0, hc0', hc1'⟩ := hy.at hlt
      rw [hx0] at hy0
      simp only [Option.some.injEq, Prod.mk.injEq] at hy0
      obtain ⟨rfl, rfl⟩ := hy0
      have hd0 := fkeep hf hc0
      have hd1 := fkeep hf hc1
      have hd0' := fkeep hf hc0'
      have hd1' := fkeep hf hc1'
      have HF := Lib.hid hf
      clear hx0 hc0 hc1 hc0' hc1' hx hy hf
      have h1 : (k : Int) < (l.length : Int) := by omega
      go_wp2
      go_still_tail 8, (by kernel_rfl)
      change wpList _ _ _ _ _ wr.drew
      have HF2 : Hid (Fresh w wr.drew) := fdrew HF.out
      generalize wr.drew = w2 at HF2
      go_wp2_with (go_at_call 28; refine (eqBlock_same _ _ _).mono ?_; rintro e w3 ⟨rfl, hb3⟩)
      go_roundw
      case rel => exact ⟨k + 1, by omega, by go_num, fstep HF2.out hb3⟩
      case measure => simp [intOf]; omega
    · have hkn : k = l.length := by omega
      subst hkn
      have HF := Lib.hid hf
      clear hf
      go_wp2
      go_ret
      exact ⟨rfl, HF.out⟩

set_option maxHeartbeats 1000000 in
theorem markBlockS_any (p : Option Addr) (cap base : Nat) (l : List (Int × Int)) (k0 : Int) (w : World) (ho : Own w base 25 p (pcs l)) (hn : l.length ≤ 1099511627776) (h0 : 0 ≤ k0) (h1 : k0 ≤ 1099511627776) :
    Calls Try.prog 47 #[.slice p l.length cap, .int .i64 k0] w fun e w' => e = .returned (.int .i64 (k0 + 2 * (l.length : Int))) ∧ Own w' base 25 p (pcs (marks2 k0 l.length)) ∧ Below base w w' := by
  go_enter Try.func47, Try.ntmps47
  go_wp2
  go_loopw [1, 5] (fun kk i wr => ∃ j : Nat, j ≤ l.length ∧ i = .int .i64 j ∧ kk = .int .i64 (k0 + 2 * (j : Int)) ∧ Own wr base 25 p (pcs (marks2 k0 j ++ l.drop j)) ∧ Below base w wr) (fun _ i _ => l.length - (intOf i).toNat)
  case atStart => exact ⟨0, Nat.zero_le _, rfl, by simp, by simpa [marks2] using ho, Below.refl _ _⟩
  case round =>
    obtain ⟨j, hj, rfl, rfl, hown, hb⟩ := hrel
    have HB := Lib.hid hb
    clear hb ho
    by_cases hlt : j < l.length
    · rcases hown with ⟨_, hnil⟩ | ⟨g, sp, rfl, hg, hr⟩
      · exfalso
        have := congrArg List.length hnil
        rw [pcs_len] at this
        simp [marks2_len] at this
        omega
      · obtain ⟨e0, e1⟩ := get_marks2 k0 l sp j hlt
        have hc0 := hr.cell e0
        have hc1 := hr.cell e1
        have hf0 := hr.frozen (j * 2)
        have hf1 := hr.frozen (j * 2 + 1)
        have HR := Lib.hid hr
        clear hr e0 e1
        go_wp2
        go_roundw
        case rel =>
          refine ⟨j + 1, by omega, by go_num, by go_num, Or.inr ⟨g, sp, rfl, hg, ?_⟩, (HB.out.setCell hg _).setCell hg _⟩
          have := (HR.out.set (j * 2) (iv (k0 + 2 * (j : Int)))).set (j * 2 + 1) (iv (k0 + 2 * (j : Int) + 1))
          rw [set_marks2 k0 l sp j hlt _ _ rfl rfl] at this
          exact this
        case measure => simp [intOf]; omega
    · have hjn : j = l.length := by omega
      subst hjn
      have HO := Lib.hid hown
      clear hown
      go_wp2
      go_ret
      refine ⟨rfl, ?_, HB.out⟩
      have := HO.out
      simpa using this

set_option maxHeartbeats 1000000 in
theorem heldBlockS_any (p : Option Addr) (cap n : Nat) (k0 : Int) (w : World) (hI : Prs w p (marks2 k0 n)) (hn : n ≤ 1099511627776) (h0 : 0 ≤ k0) (h1 : k0 ≤ 1099511627776) :
    Calls Try.prog 48 #[.slice p n cap, .int .i64 k0] w fun e w' => e = .returned (.int .i64 (k0 + 2 * (n : Int))) ∧ w = w' := by
  go_enter Try.func48, Try.ntmps48
  go_wp2
  go_loop [1, 5] (fun kk i => ∃ j : Nat, j ≤ n ∧ i = .int .i64 j ∧ kk = .int .i64 (k0 + 2 * (j : Int))) (fun _ i => n - (intOf i).toNat)
  case atStart => exact ⟨0, Nat.zero_le _, rfl, by simp⟩
  case round =>
    obtain ⟨j, hj, rfl, rfl⟩ := hrel
    by_cases hlt : j < n
    · obtain ⟨b, off, x, y, rfl, hx, hc0, hc1⟩ := hI.at (k := j) (by rw [marks2_len]; exact hlt)
      obtain ⟨rfl, rfl⟩ := marks2_get hx
      clear hx hI
      go_wp2
      go_round
      case rel => exact ⟨j + 1, by omega, by go_num, by go_num⟩
      case measure => simp [intOf]; omega
    · have hjn : j = n := by omega
      subst hjn
      go_wp2
      go_ret
      exact ⟨rfl, rfl⟩

def freeP (m : Int) : List (Int × Int) × Bool := if maskB m then (runs m, true) else ([], false)
theorem freeP_no {m : Int} (h : maskB m = false) : freeP m = ([], false) := by simp [freeP, h]
theorem freeP_yes {m : Int} (h : maskB m = true) : freeP m = (runs m, true) := by simp [freeP, h]
theorem freeP_len (m : Int) : (freeP m).1.length ≤ 25 := by
  cases h : maskB m
  · rw [freeP_no h]; simp
  · rw [freeP_yes h]; exact runs_len m

set_option maxHeartbeats 1000000 in
theorem implFreeRuns_any (m : Int) (w : World) : Calls Try.prog 45 #[.int .i64 m] w (OutBlksB w (freeP m).1 (freeP m).2) := by
  cases hm : maskB m
  · have HP := Lib.hid (freeP_no hm)
    go_enter Try.func45, Try.ntmps45
    go_wp2_with (go_at_call 64; refine (isMask_any _ _).mono ?_; rintro e w' ⟨rfl, rfl⟩)
    go_ret2
    rw [HP.out]
    exact ⟨none, 0, rfl, Or.inl ⟨rfl, rfl⟩, frefl _⟩
  · have HP := Lib.hid (freeP_yes hm)
    have h0 : 0 ≤ m := (inB_iff.1 hm).1
    go_enter Try.func45, Try.ntmps45
    go_wp2_with (go_at_call 64; refine (isMask_any _ _).mono ?_; rintro e w' ⟨rfl, rfl⟩)
    refine (freeRuns_any _ _ h0).mono ?_; rintro e w1 ⟨p, cap, rfl, ho, hb⟩
    have HO := Lib.hid ho
    clear ho
    go_wp2
    go_ret2
    rw [HP.out]
    exact ⟨p, cap, rfl, HO.out, hb⟩

set_option maxHeartbeats 1000000 in
theorem specFreeRuns_any (m : Int) (w : World) : Calls Try.prog 44 #[.int .i64 m] w (OutBlksB w (freeP m).1 (freeP m).2) := by
  cases hm : maskB m
  · have HP := Lib.hid (freeP_no hm)
    go_enter Try.func44, Try.ntmps44
    go_wp2_with (go_at_call 63; refine (l8Mask_any _ _).mono ?_; rintro e w' ⟨rfl, rfl⟩)
    go_ret2
    rw [HP.out]
    exact ⟨some ⟨w.heap.size, 0, none⟩, 0, rfl, Or.inr ⟨w.heap.size, [], rfl, Nat.le_refl _, RowAt.new w _ []⟩, fnew (frefl _) _⟩
  · have HP := Lib.hid (freeP_yes hm)
    have h0 : 0 ≤ m := (inB_iff.1 hm).1
    go_enter Try.func44, Try.ntmps44
    go_wp2_with (go_at_call 63; refine (l8Mask_any _ _).mono ?_; rintro e w' ⟨rfl, rfl⟩)
    refine (l8Runs_any _ _ h0).mono ?_; rintro e w1 ⟨p, cap, rfl, ho, hb⟩
    have HO := Lib.hid ho
    clear ho
    go_wp2
    go_ret2
    rw [HP.out]
    exact ⟨p, cap, rfl, HO.out, hb⟩

set_option maxHeartbeats 1000000 in
theorem law_FreeRuns (m : Int) (w : World) (_ : -9223372036854775808 ≤ m ∧ m ≤ 9223372036854775807) :
    Calls Try.prog 12 #[.int .i64 m] w fun e w' => e = .returned (.bool true) ∧ Fresh w w' := by
  have hlen := freeP_len m
  generalize hr : freeP m = r at hlen
  obtain ⟨L, ok⟩ := r
  have HR := Lib.hid hr
  clear hr
  simp only at hlen
  go_enter Try.func12, Try.ntmps12
  go_wp2_with fail
  refine (specFreeRuns_any _ _).mono ?_; rw [HR.out]; rintro e w1 ⟨p1, cap1, rfl, ho1, hb1⟩
  have O1 := Lib.hid ho1
  clear ho1
  go_wp2_with fail
  refine (implFreeRuns_any _ _).mono ?_; rw [HR.out]; rintro e w2 ⟨p2, cap2, rfl, ho2, hb2⟩
  have O2 := Lib.hid ho2
  clear ho2
  go_wp2_with fail
  refine (eqBlockS_same _ _ _ _ _ _ O2.out.prs (O1.out.keep hb2).prs (by omega)).mono ?_; rintro e w3 ⟨rfl, hb3⟩
  go_wp2_with fail
  refine (markBlockS_any _ _ _ _ 1 _ (O2.out.keep hb3) (by omega) (by omega) (by omega)).mono ?_; rintro e w4 ⟨rfl, ho4, hb4⟩
  have O4 := Lib.hid ho4
  clear ho4
  have hb24 : Fresh w1 w4 := Below.trans (fstep hb2 hb3) hb4
  go_wp2_with fail
  refine (heldBlockS_any _ _ _ 1 _ O4.out.prs (by omega) (by omega) (by omega)).mono ?_; rintro e w5 ⟨rfl, rfl⟩
  go_wp2_with fail
  refine (implFreeRuns_any _ _).mono ?_; rw [HR.out]; rintro e w6 ⟨p6, cap6, rfl, ho6, hb6⟩
  have O6 := Lib.hid ho6
  clear ho6
  go_wp2_with fail
  refine (eqBlockS_same _ _ _ _ _ _ O6.out.prs ((O1.out.keep hb24).keep hb6).prs (by omega)).mono ?_; rintro e w7 ⟨rfl, hb7⟩
  go_wp2_with fail
  refine (heldBlockS_any _ _ _ 1 _ ((O4.out.keep hb6).keep hb7).prs (by omega) (by omega) (by omega)).mono ?_; rintro e w8 ⟨rfl, rfl⟩
  go_wp2
  go_ret
  exact ⟨rfl, fstep hb1 (fstep hb24 (fstep hb6 hb7))⟩
end Go.Proofs.Ytkafmhgnbfofjaa
