/- Contracts: the slots for a rate, on both sides; the walks of the laws FnExactIsValidFormats, FnExactFormatFor, FnExactSlotsFor. -/
import Derived.Test.YtkafmhgnbfofjaaFmt2
namespace Go.Proofs.Ytkafmhgnbfofjaa
open Go.RowKit
theorem slotsN_pos {l : List (Int × Int)} {n r : Int} (hv : fmtsB l = true) (hr : 1 ≤ r) (h : slotsN l n r ≠ 0) : 1 ≤ slotsN l n r ∧ slotsN l n r ≤ 24 := by
  unfold slotsN at *
  split at h
  · exact absurd rfl h
  · rename_i h0
    split at h
    · exact absurd rfl h
    · rename_i h1
      rw [if_neg h0, if_neg h1]
      have hb := bestI_bound l n
      exact ⟨quo_pos hr (rateAt_range hv (by omega) hb.2).1, by omega⟩

set_option maxHeartbeats 1000000 in
theorem specSlotsFor_any (p : Option Addr) (cap : Nat) (l : List (Int × Int)) (n r : Int) (w : World) (hI : Prs w p l) (hn : l.length ≤ 1048576) :
    Calls Try.prog 49 #[.slice p l.length cap, .int .i64 n, .int .i64 r] w fun e w' => e = .returned (.tuple #[.int .i64 (slotsF l n r).1, .bool (slotsF l n r).2]) ∧ Fresh w w' := by
  cases h1 : fmtsB l
  · have HP := Lib.hid (slotsF_no (l := l) (n := n) (r := r) (by rw [h1]; rfl))
    go_enter Try.func49, Try.ntmps49
    go_wp2_with (go_at_call 69; refine (l10Formats_any _ _ _ _ hI hn).mono ?_; rintro e w1 ⟨rfl, hb1⟩)
    go_ret2
    exact ⟨by rw [HP.out]; rfl, hb1⟩
  · cases h2 : inB n 0 20000
    · have HP := Lib.hid (slotsF_no (l := l) (n := n) (r := r) (by rw [h1, h2]; rfl))
      go_enter Try.func49, Try.ntmps49
      go_wp2_with fail
      refine (l10Formats_any _ _ _ _ hI hn).mono ?_; rintro e w1 ⟨rfl, hb1⟩
      go_wp2_with fail
      refine (l1In_any _ _ _ _).mono ?_; rintro e w' ⟨rfl, rfl⟩
      go_wp2
      go_ret2
      exact ⟨by rw [HP.out]; rfl, hb1⟩
    · cases h3 : inB r 1 1000
      · have HP := Lib.hid (slotsF_no (l := l) (n := n) (r := r) (by rw [h1, h2, h3]; rfl))
        go_enter Try.func49, Try.ntmps49
        go_wp2_with fail
        refine (l10Formats_any _ _ _ _ hI hn).mono ?_; rintro e w1 ⟨rfl, hb1⟩
        go_wp2_with fail
        refine (l1In_any _ _ _ _).mono ?_; rintro e w' ⟨rfl, rfl⟩
        go_wp2_with fail
        refine (l1In_any _ _ _ _).mono ?_; rintro e w' ⟨rfl, rfl⟩
        go_wp2
        go_ret2
        exact ⟨by rw [HP.out]; rfl, hb1⟩
      · have hr := inB_iff.1 h3
        by_cases h4 : slotsN l n r = 0
        · have HP := Lib.hid (slotsF_zero h4)
          have H4 := Lib.hid h4
          clear h4
          go_enter Try.func49, Try.ntmps49
          go_wp2_with fail
          refine (l10Formats_any _ _ _ _ hI hn).mono ?_; rintro e w1 ⟨rfl, hb1⟩
          go_wp2_with fail
          refine (l1In_any _ _ _ _).mono ?_; rintro e w' ⟨rfl, rfl⟩
          go_wp2_with fail
          refine (l1In_any _ _ _ _).mono ?_; rintro e w' ⟨rfl, rfl⟩
          go_wp2_with fail
          refine (l10Slots_any _ _ _ _ _ _ (hI.keep hb1) hn h1 hr).mono ?_; rw [H4.out]; rintro e w2 ⟨rfl, hb2⟩
          go_wp2
          go_ret2
          exact ⟨by rw [HP.out]; rfl, fstep hb1 hb2⟩
        · have HP := Lib.hid (slotsF_yes (l := l) (n := n) (r := r) (by rw [h1, h2, h3]; rfl) h4)
          generalize hs : slotsN l n r = s at *
          have HS := Lib.hid hs
          clear hs
          go_enter Try.func49, Try.ntmps49
          go_wp2_with fail
          refine (l10Formats_any _ _ _ _ hI hn).mono ?_; rintro e w1 ⟨rfl, hb1⟩
          go_wp2_with fail
          refine (l1In_any _ _ _ _).mono ?_; rintro e w' ⟨rfl, rfl⟩
          go_wp2_with fail
          refine (l1In_any _ _ _ _).mono ?_; rintro e w' ⟨rfl, rfl⟩
          go_wp2_with fail
          refine (l10Slots_any _ _ _ _ _ _ (hI.keep hb1) hn h1 hr).mono ?_; rw [HS.out]; rintro e w2 ⟨rfl, hb2⟩
          go_wp2_with fail
          refine (l10Slots_any _ _ _ _ _ _ ((hI.keep hb1).keep hb2) hn h1 hr).mono ?_; rw [HS.out]; rintro e w3 ⟨rfl, hb3⟩
          go_wp2
          go_ret2
          exact ⟨by rw [HP.out]; rfl, fstep hb1 (fstep hb2 hb3)⟩

set_option maxHeartbeats 1000000 in
theorem implSlotsFor_any (p : Option Addr) (cap : Nat) (l : List (Int × Int)) (n r : Int) (w : World) (hI : Prs w p l) (hn : l.length ≤ 1048576) :
    Calls Try.prog 50 #[.slice p l.length cap, .int .i64 n, .int .i64 r] w fun e w' => e = .returned (.tuple #[.int .i64 (slotsF l n r).1, .bool (slotsF l n r).2]) ∧ Fresh w w' := by
  cases h1 : (fmtsB l && inB n 0 20000)
  · have HP := Lib.hid (slotsF_no (l := l) (n := n) (r := r) (by rw [h1]; rfl))
    have HF := Lib.hid (fmtFor_no h1)
    go_enter Try.func50, Try.ntmps50
    go_wp2_with fail
    refine (implFormatFor_any _ _ _ _ _ hI hn).mono ?_; rw [HF.out]; rintro e w1 ⟨rfl, hb1⟩
    go_wp2
    go_ret2
    exact ⟨by rw [HP.out]; rfl, hb1⟩
  · have hv : fmtsB l = true := by rw [Bool.and_eq_true] at h1; exact h1.1
    have hbd := bestI_bound l n
    by_cases h0 : bestI l n < 0
    · have HP := Lib.hid (slotsF_zero (l := l) (n := n) (r := r) (slotsN_none h0))
      have HF := Lib.hid (fmtFor_none h0)
      clear hbd h0
      go_enter Try.func50, Try.ntmps50
      go_wp2_with fail
      refine (implFormatFor_any _ _ _ _ _ hI hn).mono ?_; rw [HF.out]; rintro e w1 ⟨rfl, hb1⟩
      go_wp2
      go_ret2
      exact ⟨by rw [HP.out]; rfl, hb1⟩
    · have HF := Lib.hid (fmtFor_yes h1 (by omega))
      cases h3 : inB r 1 1000
      · have HP := Lib.hid (slotsF_no (l := l) (n := n) (r := r) (by rw [h1, h3]; rfl))
        clear hbd h0 h1
        go_enter Try.func50, Try.ntmps50
        go_wp2_with fail
        refine (implFormatFor_any _ _ _ _ _ hI hn).mono ?_; rw [HF.out]; rintro e w1 ⟨rfl, hb1⟩
        go_wp2_with (go_at_call 60; refine (within_any _ _ _ _).mono ?_; rintro e w' ⟨rfl, rfl⟩)
        go_ret2
        exact ⟨by rw [HP.out]; rfl, hb1⟩
      · obtain ⟨r1, r2⟩ := inB_iff.1 h3
        obtain ⟨q1, q2⟩ := rateAt_range hv (i := bestI l n) (by omega) hbd.2
        have HM := Lib.hid (fun h => slotsF_zero (slotsN_many (l := l) (n := n) (r := r) h))
        have hpos := quo_pos r1 q1
        have HS := Lib.hid (fun h => slotsF_yes (l := l) (n := n) (r := r) (by rw [h1, h3]; rfl) (by rw [slotsN_some h0 h]; omega))
        have HT := Lib.hid (slotsN_some (l := l) (n := n) (r := r) h0)
        have hlo : 0 ≤ bestI l n := by omega
        have HG := Lib.hid (fun (w1 : World) (h : Prs w1 p l) => prs_rate h hlo hbd.2)
        have HI := Lib.hid hI
        clear hI hv h1
        generalize hq : rateAt l (bestI l n) = q at *
        clear hq
        generalize hi : bestI l n = i at *
        clear hi
        by_cases hm : 24 < (r + q - 1) / q
        · go_enter Try.func50, Try.ntmps50
          go_wp2_with fail
          refine (implFormatFor_any _ _ _ _ _ HI.out hn).mono ?_; rw [HF.out]; rintro e w1 ⟨rfl, hb1⟩
          obtain ⟨b, off, rfl, hc⟩ := HG.out w1 (HI.out.keep hb1)
          go_wp2_with (go_at_call 60; refine (within_any _ _ _ _).mono ?_; rintro e w' ⟨rfl, rfl⟩)
          go_quiet (fail)
          go_wp2
          go_ret2
          exact ⟨by rw [HM.out hm]; rfl, fdrewN hb1 _⟩
        · go_enter Try.func50, Try.ntmps50
          go_wp2_with fail
          refine (implFormatFor_any _ _ _ _ _ HI.out hn).mono ?_; rw [HF.out]; rintro e w1 ⟨rfl, hb1⟩
          obtain ⟨b, off, rfl, hc⟩ := HG.out w1 (HI.out.keep hb1)
          go_wp2_with (go_at_call 60; refine (within_any _ _ _ _).mono ?_; rintro e w' ⟨rfl, rfl⟩)
          go_quiet (fail)
          go_wp2
          go_ret2
          exact ⟨by rw [HS.out hm, HT.out hm]; rfl, fdrewN hb1 _⟩

set_option maxHeartbeats 1000000 in
theorem specIsValidFormats_any (p : Option Addr) (cap : Nat) (l : List (Int × Int)) (w : World) (hI : Prs w p l) (hn : l.length ≤ 1048576) :
    Calls Try.prog 32 #[.slice p l.length cap] w fun e w' => e = .returned (.bool (fmtsB l)) ∧ Fresh w w' := by
  go_enter Try.func32, Try.ntmps32
  go_wp2_with (go_at_call 69; refine (l10Formats_any _ _ _ _ hI hn).mono ?_; rintro e w1 ⟨rfl, hb1⟩)
  go_ret
  exact ⟨rfl, hb1⟩

set_option maxHeartbeats 1000000 in
theorem law_IsValidFormats (p : Option Addr) (c : Nat) (l : List (Int × Int)) (w : World) (hI : Prs w p l) (hm : l.length ≤ 9223372036854775807) (_ : ∀ x ∈ l, True) :
    Calls Try.prog 8 #[.slice p l.length c] w fun e w' => e = .returned (.bool true) ∧ Fresh w w' := by
  by_cases hn : l.length ≤ 1048576
  · have HI := Lib.hid hI
    clear hI
    have hsz : (if (l.length : Int) ≤ 1048576 then 1048576 - (l.length : Int) else -1) = 1048576 - (l.length : Int) := if_pos (by omega)
    have HZ := Lib.hid hsz
    clear hsz
    go_enter Try.func8, Try.ntmps8
    go_wp2_with fail
    refine (szFormatS_any _ _ _ _ _ rfl hm).mono ?_; rw [HZ.out]; rintro e w' ⟨rfl, rfl⟩
    go_wp2_with fail
    refine (toFormatS_any _ _ _ _ HI.out hn).mono ?_; rintro e w1 ⟨rfl, hr1, hb1⟩
    have R1 := Lib.hid hr1
    have HI1 := Lib.hid (HI.out.keep hb1)
    clear hr1
    go_wp2_with fail
    refine (specIsValidFormats_any _ _ _ _ R1.out.cells hn).mono ?_; rintro e w2 ⟨rfl, hb2⟩
    have HI2 := Lib.hid (HI1.out.keep hb2)
    go_wp2_with fail
    refine (toFormatS_any _ _ _ _ HI2.out hn).mono ?_; rintro e w3 ⟨rfl, hr3, hb3⟩
    have R3 := Lib.hid hr3
    have HI3 := Lib.hid (HI2.out.keep hb3)
    clear hr3
    go_wp2_with fail
    refine (implIsValidFormats_any _ _ _ _ R3.out.cells hn).mono ?_; rintro e w4 ⟨rfl, hb4⟩
    have HI4 := Lib.hid (HI3.out.keep hb4)
    go_wp2_with fail
    refine (toFormatS_any _ _ _ _ HI4.out hn).mono ?_; rintro e w5 ⟨rfl, hr5, hb5⟩
    have R5 := Lib.hid hr5
    clear hr5
    go_wp2_with fail
    refine (eqFormatS_same _ _ _ _ _ _ ((R3.out.keep hb4).keep hb5).cells R5.out.cells (by omega)).mono ?_; rintro e w6 ⟨rfl, hb6⟩
    go_wp2
    go_ret
    exact ⟨rfl, fstep hb1 (fstep hb2 (fstep hb3 (fstep hb4 (fstep hb5 hb6))))⟩
  · have hsz : (if (l.length : Int) ≤ 1048576 then 1048576 - (l.length : Int) else -1) = -1 := if_neg (by omega)
    have HZ := Lib.hid hsz
    clear hsz
    go_enter Try.func8, Try.ntmps8
    go_wp2_with fail
    refine (szFormatS_any _ _ _ _ _ rfl hm).mono ?_; rw [HZ.out]; rintro e w' ⟨rfl, rfl⟩
    go_wp2
    go_ret
    exact ⟨rfl, frefl _⟩

set_option maxHeartbeats 1000000 in
theorem law_FormatFor (p : Option Addr) (c : Nat) (l : List (Int × Int)) (n : Int) (w : World) (hI : Prs w p l) (hm : l.length ≤ 9223372036854775807) (_ : ∀ x ∈ l, True) (_ : -9223372036854775808 ≤ n ∧ n ≤ 9223372036854775807) :
    Calls Try.prog 11 #[.slice p l.length c, .int .i64 n] w fun e w' => e = .returned (.bool true) ∧ Fresh w w' := by
  by_cases hn : l.length ≤ 1048576
  · have HI := Lib.hid hI
    clear hI
    have hsz : (if (l.length : Int) ≤ 1048576 then 1048576 - (l.length : Int) else -1) = 1048576 - (l.length : Int) := if_pos (by omega)
    have HZ := Lib.hid hsz
    clear hsz
    generalize hr : fmtFor l n = z
    obtain ⟨z1, z2⟩ := z
    have HR := Lib.hid hr
    clear hr
    go_enter Try.func11, Try.ntmps11
    go_wp2_with fail
    refine (szFormatS_any _ _ _ _ _ rfl hm).mono ?_; rw [HZ.out]; rintro e w' ⟨rfl, rfl⟩
    go_wp2_with fail
    refine (toFormatS_any _ _ _ _ HI.out hn).mono ?_; rintro e w1 ⟨rfl, hr1, hb1⟩
    have R1 := Lib.hid hr1
    have HI1 := Lib.hid (HI.out.keep hb1)
    clear hr1
    go_wp2_with fail
    refine (specFormatFor_any _ _ _ _ _ R1.out.cells hn).mono ?_; rw [HR.out]; rintro e w2 ⟨rfl, hb2⟩
    have HI2 := Lib.hid (HI1.out.keep hb2)
    go_wp2_with fail
    refine (toFormatS_any _ _ _ _ HI2.out hn).mono ?_; rintro e w3 ⟨rfl, hr3, hb3⟩
    have R3 := Lib.hid hr3
    have HI3 := Lib.hid (HI2.out.keep hb3)
    clear hr3
    go_wp2_with fail
    refine (implFormatFor_any _ _ _ _ _ R3.out.cells hn).mono ?_; rw [HR.out]; rintro e w4 ⟨rfl, hb4⟩
    have HI4 := Lib.hid (HI3.out.keep hb4)
    go_wp2_with fail
    refine (toFormatS_any _ _ _ _ HI4.out hn).mono ?_; rintro e w5 ⟨rfl, hr5, hb5⟩
    have R5 := Lib.hid hr5
    clear hr5
    go_wp2_with fail
    refine (eqFormatS_same _ _ _ _ _ _ ((R3.out.keep hb4).keep hb5).cells R5.out.cells (by omega)).mono ?_; rintro e w6 ⟨rfl, hb6⟩
    go_wp2
    go_ret
    exact ⟨rfl, fstep hb1 (fstep hb2 (fstep hb3 (fstep hb4 (fstep hb5 hb6))))⟩
  · have hsz : (if (l.length : Int) ≤ 1048576 then 1048576 - (l.length : Int) else -1) = -1 := if_neg (by omega)
    have HZ := Lib.hid hsz
    clear hsz
    go_enter Try.func11, Try.ntmps11
    go_wp2_with fail
    refine (szFormatS_any _ _ _ _ _ rfl hm).mono ?_; rw [HZ.out]; rintro e w' ⟨rfl, rfl⟩
    go_wp2
    go_ret
    exact ⟨rfl, frefl _⟩

set_option maxHeartbeats 1000000 in
theorem law_SlotsFor (p : Option Addr) (c : Nat) (l : List (Int × Int)) (n r : Int) (w : World) (hI : Prs w p l) (hm : l.length ≤ 9223372036854775807) (_ : ∀ x ∈ l, True) (_ : -9223372036854775808 ≤ n ∧ n ≤ 9223372036854775807) (_ : -9223372036854775808 ≤ r ∧ r ≤ 9223372036854775807) :
    Calls Try.prog 13 #[.slice p l.length c, .int .i64 n, .int .i64 r] w fun e w' => e = .returned (.bool true) ∧ Fresh w w' := by
  by_cases hn : l.length ≤ 1048576
  · have HI := Lib.hid hI
    clear hI
    have hsz : (if (l.length : Int) ≤ 1048576 then 1048576 - (l.length : Int) else -1) = 1048576 - (l.length : Int) := if_pos (by omega)
    have HZ := Lib.hid hsz
    clear hsz
    generalize hr : slotsF l n r = z
    obtain ⟨z1, z2⟩ := z
    have HR := Lib.hid hr
    clear hr
    go_enter Try.func13, Try.ntmps13
    go_wp2_with fail
    refine (szFormatS_any _ _ _ _ _ rfl hm).mono ?_; rw [HZ.out]; rintro e w' ⟨rfl, rfl⟩
    go_wp2_with fail
    refine (toFormatS_any _ _ _ _ HI.out hn).mono ?_; rintro e w1 ⟨rfl, hr1, hb1⟩
    have R1 := Lib.hid hr1
    have HI1 := Lib.hid (HI.out.keep hb1)
    clear hr1
    go_wp2_with fail
    refine (specSlotsFor_any _ _ _ _ _ _ R1.out.cells hn).mono ?_; rw [HR.out]; rintro e w2 ⟨rfl, hb2⟩
    have HI2 := Lib.hid (HI1.out.keep hb2)
    go_wp2_with fail
    refine (toFormatS_any _ _ _ _ HI2.out hn).mono ?_; rintro e w3 ⟨rfl, hr3, hb3⟩
    have R3 := Lib.hid hr3
    have HI3 := Lib.hid (HI2.out.keep hb3)
    clear hr3
    go_wp2_with fail
    refine (implSlotsFor_any _ _ _ _ _ _ R3.out.cells hn).mono ?_; rw [HR.out]; rintro e w4 ⟨rfl, hb4⟩
    have HI4 := Lib.hid (HI3.out.keep hb4)
    go_wp2_with fail
    refine (toFormatS_any _ _ _ _ HI4.out hn).mono ?_; rintro e w5 ⟨rfl, hr5, hb5⟩
    have R5 := Lib.hid hr5
    clear hr5
    go_wp2_with fail
    refine (eqFormatS_same _ _ _ _ _ _ ((R3.out.keep hb4).keep hb5).cells R5.out.cells (by omega)).mono ?_; rintro e w6 ⟨rfl, hb6⟩
    go_wp2
    go_ret
    exact ⟨rfl, fstep hb1 (fstep hb2 (fstep hb3 (fstep hb4 (fstep hb5 hb6))))⟩
  · have hsz : (if (l.length : Int) ≤ 1048576 then 1048576 - (l.length : Int) else -1) = -1 := if_neg (by omega)
    have HZ := Lib.hid hsz
    clear hsz
    go_enter Try.func13, Try.ntmps13
    go_wp2_with fail
    refine (szFormatS_any _ _ _ _ _ rfl hm).mono ?_; rw [HZ.out]; rintro e w' ⟨rfl, rfl⟩
    go_wp2
    go_ret
    exact ⟨rfl, frefl _⟩
end Go.Proofs.Ytkafmhgnbfofjaa
