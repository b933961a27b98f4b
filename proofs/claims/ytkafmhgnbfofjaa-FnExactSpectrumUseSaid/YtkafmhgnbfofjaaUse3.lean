/- Contracts: SpectrumUse of the program; the walk of its law. -/
import Derived.Test.YtkafmhgnbfofjaaUse2
namespace Go.Proofs.Ytkafmhgnbfofjaa
open Go.RowKit

set_option maxHeartbeats 2000000 in
theorem implSpectrumUse_any (m : Int) (w : World) : Calls Try.prog 52 #[.int .i64 m] w fun e w' => e = .returned (use4 (useF m)) ∧ Fresh w w' := by
  cases hm : maskB m
  · have HP := Lib.hid (useF_no hm)
    go_enter Try.func52, Try.ntmps52
    go_wp2_with (go_at_call 64; refine (isMask_any _ _).mono ?_; rintro e w' ⟨rfl, rfl⟩)
    refine bodyPost_ret (v := use4 (0, 0, 0, false)) (by simp [results, Try.results52, go_sem, use4]) rfl ⟨by rw [HP.out], frefl _⟩
  · obtain ⟨m0, m1⟩ := inB_iff.1 hm
    obtain ⟨x, rfl⟩ := Int.eq_ofNat_of_zero_le m0
    have hx : x < 16777216 := by omega
    have hcb := pop.cntTo_le x 24
    rw [pop.cntTo_24 x hx] at hcb
    have HF := Lib.hid (fun c => useF_full (c := c) hm)
    have HG := Lib.hid (fun c => useF_part (c := c) hm)
    have HBD := Lib.hid (longTo_bd (runs_small (x : Int)))
    have HLE : Hid (longest (x : Int) = longTo (runs (x : Int)) (runs (x : Int)).length) := rfl
    have HR := Lib.hid (freeRuns_any (x : Int))
    have hlen := runs_len (x : Int)
    generalize hl : longest (x : Int) = l at *
    have HLL := Lib.hid hl
    clear hl
    generalize hL : runs (x : Int) = L at *
    clear hL
    have HC := Lib.hid (fun w => onesCount_any x w hx)
    have HT : Hid (((x : Int)).toNat = x) := Int.toNat_natCast x
    generalize hc : pop.cnt x = c at *
    have HCC := Lib.hid hc
    clear hc
    go_enter Try.func52, Try.ntmps52
    go_wp2_with (go_at_call 64; refine (isMask_any _ _).mono ?_; rintro e w' ⟨rfl, rfl⟩)
    refine (HC.out _).mono ?_; rintro e w' ⟨rfl, rfl⟩
    go_wp2_with fail
    refine (HR.out _ m0).mono ?_; rintro e w1 ⟨p, cap, rfl, ho, hb⟩
    have hI := ho.prs
    have HB := Lib.hid hb
    clear ho hb
    go_wp2
    go_loopw [7, 21] (fun b i wr => ∃ k : Nat, k ≤ L.length ∧ i = .int .i64 k ∧ b = .int .i64 (longTo L k) ∧ Fresh w1 wr) (fun _ i _ => L.length - (intOf i).toNat)
    case atStart => exact ⟨0, Nat.zero_le _, rfl, rfl, frefl _⟩
    case round =>
      obtain ⟨k, hk, rfl, rfl, hf⟩ := hrel
      have HFR := Lib.hid hf
      obtain ⟨b0, b1⟩ := HBD.out k
      by_cases hlt : k < L.length
      · obtain ⟨b, off, u, y, rfl, hx0, hc0, hc1⟩ := hI.at hlt
        have hd0 := fkeep hf hc0
        have hd1 := fkeep hf hc1
        have hbl : b < wr.heap.size := World.block_lt_of_cell? wr _ hd0
        have HS := Lib.hid (longTo_step hx0)
        clear hx0 hI hc0 hc1 hf
        by_cases hgt : longTo L k < y
        all_goals
          go_wp2
          go_roundw
          case rel => exact ⟨k + 1, by omega, by go_num, by rw [HS.out]; unfold mx; go_num, fnew HFR.out _⟩
          case measure => simp [intOf]; omega
      · have hkn : k = L.length := by omega
        have hll : Hid (longTo L k = l) := by rw [hkn]; exact HLE.out.symm
        rw [hll.out] at b0 b1
        clear hf
        have hsub : longTo L k = l := hll.out
        rw [hsub]
        by_cases hf : c = 24
        · subst hf
          subst hkn
          go_wp2
          refine bodyPost_ret (v := use4 (24, l, 0, true)) (by simp [results, Try.results52, go_sem, use4]) rfl ⟨?_, fstep HB.out HFR.out⟩
          rw [HF.out 24 (by rw [HT.out, HCC.out]) (by omega)]; rfl
        · have hz : decide (0 < 24 - (c : Int)) = true := decide_eq_true (by omega)
          have hpos : 1 ≤ 24 - (c : Int) := by omega
          have hnum : 0 ≤ 1000 * l + (24 - (c : Int)) - 1 := by omega
          have hq0 : 0 ≤ (1000 * l + (24 - (c : Int)) - 1) / (24 - (c : Int)) := Int.ediv_nonneg hnum (by omega)
          have hq1 : (1000 * l + (24 - (c : Int)) - 1) / (24 - (c : Int)) ≤ 1000 * l + (24 - (c : Int)) - 1 := Int.ediv_le_self _ hnum
          subst hkn
          go_wp2
          refine bodyPost_ret (v := use4 ((c : Int), l, 1000 - (1000 * l + (24 - (c : Int)) - 1) / (24 - (c : Int)), true)) (by simp [results, Try.results52, go_sem, use4]) rfl ⟨?_, fstep HB.out HFR.out⟩
          rw [HG.out c (by rw [HT.out, HCC.out]) (by omega)]

set_option maxHeartbeats 1000000 in
theorem law_SpectrumUse (m : Int) (w : World) (_ : -9223372036854775808 ≤ m ∧ m ≤ 9223372036854775807) :
    Calls Try.prog 14 #[.int .i64 m] w fun e w' => e = .returned (.bool true) ∧ Fresh w w' := by
  generalize hr : useF m = r
  obtain ⟨a, b, c, d⟩ := r
  have HR := Lib.hid hr
  clear hr
  go_enter Try.func14, Try.ntmps14
  go_wp2_with fail
  refine (specSpectrumUse_any _ _).mono ?_; rw [HR.out]; unfold use4; rintro e w1 ⟨rfl, hb1⟩
  go_wp2_with fail
  refine (implSpectrumUse_any _ _).mono ?_; rw [HR.out]; unfold use4; rintro e w2 ⟨rfl, hb2⟩
  go_wp2
  go_ret
  exact ⟨rfl, fstep hb1 hb2⟩
end Go.Proofs.Ytkafmhgnbfofjaa
