/- Contracts: the slots for a rate, on both sides; the walks of the laws FnExactIsValidFormats, FnExactFormatFor, FnExactSlotsFor. -/
import Derived.Test.YtnhjacaiggghnaaFmt2
namespace Go.Proofs.Ytnhjacaiggghnaa
open Go.RowKit
theorem slotsN_pos {l : List (Int × Int)} {n r : Int} (hv : fmtsB l = true) (hr : 1 ≤ r) (h : slotsN l n r ≠ 0) : 1 ≤ slotsN l n r ∧ slotsN l n r ≤ 24 := by
  unfold slotsN at *
  split at h
  · exact absurd rfl h
  · rename_i h0
    split at h
    · exact absurd rfl h
    · rename_i h1
      rw [if_neg h0, if_neg h1]
      have hb := bestI_bound l n
      exact ⟨quo_pos hr (rateAt_range hv (by omega) hb.2).1, by omega⟩

set_option maxHeartbeats 1000000 in
theorem specSlotsFor_any (p : Option Addr) (cap : Nat) (l : List (Int × Int)) (n r : Int) (w : World) (hI : Prs w p l) (hn : l.length ≤ 1048576) :
    Calls Try.prog 8 #[.slice p l.length cap, .int .i64 n, .int .i64 r] w fun e w' => e = .returned (.tuple #[.int .i64 (slotsF l n r).1, .bool (slotsF l n r).2]) ∧ Fresh w w' := by
  cases h1 : fmtsB l
  · have HP := Lib.hid (slotsF_no (l := l) (n := n) (r := r) (by rw [h1]; rfl))
    go_enter Try.func8, Try.ntmps8
    go_wp2_with (go_at_call 27; refine (l10Formats_any _ _ _ _ hI hn).mono ?_; rintro e w1 ⟨rfl, hb1⟩)
    go_ret2
    exact ⟨by rw [HP.out]; rfl, hb1⟩
  · cases h2 : inB n 0 20000
    · have HP := Lib.hid (slotsF_no (l := l) (n := n) (r := r) (by rw [h1, h2]; rfl))
      go_enter Try.func8, Try.ntmps8
      go_wp2_with fail
      refine (l10Formats_any _ _ _ _ hI hn).mono ?_; rintro e w1 ⟨rfl, hb1⟩
      go_wp2_with fail
      refine (l1In_any _ _ _ _).mono ?_; rintro e w' ⟨rfl, rfl⟩
      go_wp2
      go_ret2
      exact ⟨by rw [HP.out]; rfl, hb1⟩
    · cases h3 : inB r 1 1000
      · have HP := Lib.hid (slotsF_no (l := l) (n := n) (r := r) (by rw [h1, h2, h3]; rfl))
        go_enter Try.func8, Try.ntmps8
        go_wp2_with fail
        refine (l10Formats_any _ _ _ _ hI hn).mono ?_; rintro e w1 ⟨rfl, hb1⟩
        go_wp2_with fail
        refine (l1In_any _ _ _ _).mono ?_; rintro e w' ⟨rfl, rfl⟩
        go_wp2_with fail
        refine (l1In_any _ _ _ _).mono ?_; rintro e w' ⟨rfl, rfl⟩
        go_wp2
        go_ret2
        exact ⟨by rw [HP.out]; rfl, hb1⟩
      · have hr := inB_iff.1 h3
        by_cases h4 : slotsN l n r = 0
        · have HP := Lib.hid (slotsF_zero h4)
          have H4 := Lib.hid h4
          clear h4
          go_enter Try.func8, Try.ntmps8
          go_wp2_with fail
          refine (l10Formats_any _ _ _ _ hI hn).mono ?_; rintro e w1 ⟨rfl, hb1⟩
          go_wp2_with fail
          refine (l1In_any _ _ _ _).mono ?_; rintro e w' ⟨rfl, rfl⟩
          go_wp2_with fail
          refine (l1In_any _ _ _ _).mono ?_; rintro e w' ⟨rfl, rfl⟩
          go_wp2_with fail
          refine (l10Slots_any _ _ _ _ _ _ (hI.keep hb1) hn h1 hr).mono ?_; rw [H4.out]; rintro e w2 ⟨rfl, hb2⟩
          go_wp2
          go_ret2
          exact ⟨by rw [HP.out]; rfl, fstep hb1 hb2⟩
        · have HP := Lib.hid (slotsF_yes (l := l) (n := n) (r := r) (by rw [h1, h2, h3]; rfl) h4)
          generalize hs : slotsN l n r = s at *
          have HS := Lib.hid hs
          clear hs
          go_enter Try.func8, Try.ntmps8
          go_wp2_with fail
          refine (l10Formats_any _ _ _ _ hI hn).mono ?_; rintro e w1 ⟨rfl, hb1⟩
          go_wp2_with fail
          refine (l1In_any _ _ _ _).mono ?_; rintro e w' ⟨rfl, rfl⟩
          go_wp2_with fail
          refine (l1In_any _ _ _ _).mono ?_; rintro e w' ⟨rfl, rfl⟩
          go_wp2_with fail
          refine (l10Slots_any _ _ _ _ _ _ (hI.keep hb1) hn h1 hr).mono ?_; rw [HS.out]; rintro e w2 ⟨rfl, hb2⟩
          go_wp2_with fail
          refine (l10Slots_any _ _ _ _ _ _ ((hI.keep hb1).keep hb2) hn h1 hr).mono ?_; rw [HS.out]; rintro e w3 ⟨rfl, hb3⟩
          go_wp2
          go_ret2
          exact ⟨by rw [HP.out]; rfl, fstep hb1 (fstep hb2 hb3)⟩

set_option maxHeartbeats 1000000 in
theorem implSlotsFor_any (p : Option Addr) (cap : Nat) (l : List (Int × Int)) (n r : Int) (w : World) (hI : Prs w p l) (hn : l.length ≤ 1048576) :
    Calls Try.prog 7 #[.slice p l.length cap, .int .i64 n, .int .i64 r] w fun e w' => e = .returned (.tuple #[.int .i64 (slotsF l n r).1, .bool (slotsF l n r).2]) ∧ Fresh w w' := by
  cases h1 : (fmtsB l && inB n 0 20000)
  · have HP := Lib.hid (slotsF_no (l := l) (n := n) (r := r) (by rw [h1]; rfl))
    have HF := Lib.hid (fmtFor_no h1)
    go_enter Try.func7, Try.ntmps7
    go_wp2_with fail
    refine (implFormatFor_any _ _ _ _ _ hI hn).mono ?_; rw [HF.out]; rintro e w1 ⟨rfl, hb1⟩
    go_wp2
    go_ret2
    exact ⟨by rw [HP.out]; rfl, hb1⟩
  · have hv : fmtsB l = true := by rw [Bool.and_eq_true] at h1; exact h1.1
    have hbd := bestI_bound l n
    by_cases h0 : bestI l n < 0
    · have HP := Lib.hid (slotsF_zero (l := l) (n := n) (r := r) (slotsN_none h0))
      have HF := Lib.hid (fmtFor_none h0)
      clear hbd h0
      go_enter Try.func7, Try.ntmps7
      go_wp2_with fail
      refine (implFormatFor_any _ _ _ _ _ hI hn).mono ?_; rw [HF.out]; rintro e w1 ⟨rfl, hb1⟩
      go_wp2
      go_ret2
      exact ⟨by rw [HP.out]; rfl, hb1⟩
    · have HF := Lib.hid (fmtFor_yes h1 (by omega))
      cases h3 : inB r 1 1000
      · have HP := Lib.hid (slotsF_no (l := l) (n := n) (r := r) (by rw [h1, h3]; rfl))
        clear hbd h0 h1
        go_enter Try.func7, Try.ntmps7
        go_wp2_with fail
        refine (implFormatFor_any _ _ _ _ _ hI hn).mono ?_; rw [HF.out]; rintro e w1 ⟨rfl, hb1⟩
        go_wp2_with (go_at_call 26; refine (within_any _ _ _ _).mono ?_; rintro e w' ⟨rfl, rfl⟩)
        go_ret2
        exact ⟨by rw [HP.out]; rfl, hb1⟩
      · obtain ⟨r1, r2⟩ := inB_iff.1 h3
        obtain ⟨q1, q2⟩ := rateAt_range hv (i := bestI l n) (by omega) hbd.2
        have HM := Lib.hid (fun h => slotsF_zero (slotsN_many (l := l) (n := n) (r := r) h))
        have hpos := quo_pos r1 q1
        have HS := Lib.hid (fun h => slotsF_yes (l := l) (n := n) (r := r) (by rw [h1, h3]; rfl) (by rw [slotsN_some h0 h]; omega))
        have HT := Lib.hid (slotsN_some (l := l) (n := n) (r := r) h0)
        have hlo : 0 ≤ bestI l n := by omega
        have HG := Lib.hid (fun (w1 : World) (h : Prs w1 p l) => prs_rate h hlo hbd.2)
        have HI := Lib.hid hI
        clear hI hv h1
        generalize hq : rateAt l (bestI l n) = q at *
        clear hq
        generalize hi : bestI l n = i at *
        clear hi
        by_cases hm : 24 < (r + q - 1) / q
        · go_enter Try.func7, Try.ntmps7
          go_wp2_with fail
          refine (implFormatFor_any _ _ _ _ _ HI.out hn).mono ?_; rw [HF.out]; rintro e w1 ⟨rfl, hb1⟩
          obtain ⟨b, off, rfl, hc⟩ := HG.out w1 (HI.out.keep hb1)
          go_wp2_with (go_at_call 26; refine (within_any _ _ _ _).mono ?_; rintro e w' ⟨rfl, rfl⟩)
          go_quiet (fail)
          go_wp2
          go_ret2
          exact ⟨by rw [HM.out hm]; rfl, fdrewN hb1 _⟩
        · go_enter Try.func7, Try.ntmps7
          go_wp2_with fail
          refine (implFormatFor_any _ _ _ _ _ HI.out hn).mono ?_; rw [HF.out]; rintro e w1 ⟨rfl, hb1⟩
          obtain ⟨b, off, rfl, hc⟩ := HG.out w1 (HI.out.keep hb1)
          go_wp2_with (go_at_call 26; refine (within_any _ _ _ _).mono ?_; rintro e w' ⟨rfl, rfl⟩)
          go_quiet (fail)
          go_wp2
          go_ret2
          exact ⟨by rw [HS.out hm, HT.out hm]; rfl, fdrewN hb1 _⟩

set_option maxHeartbeats 1000000 in
theorem specIsValidFormats_any (p : Option Addr) (cap : Nat) (l : List (Int × Int)) (w : World) (hI : Prs w p l) (hn : l.length ≤ 1048576) :
    Calls Try.prog 10 #[.slice p l.length cap] w fun e w' => e = .returned (.bool (fmtsB l)) ∧ Fresh w w' := by
  go_enter Try.func10, Try.ntmps10
  go_wp2_with (go_at_call 27; refine (l10Formats_any _ _ _ _ hI hn).mono ?_; rintro e w1 ⟨rfl, hb1⟩)
  go_ret
  exact ⟨rfl, hb1⟩

end Go.Proofs.Ytnhjacaiggghnaa
