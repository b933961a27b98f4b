/- The walk of FnSpectrum: the statement's function. -/
import Derived.Test.YtnhjacaiggghnaaSpcW
namespace Go.Proofs.Ytnhjacaiggghnaa
open Go.RowKit Go.PlainAid

set_option maxHeartbeats 8000000 in
set_option maxRecDepth 100000 in
theorem law_Spectrum (p : Option Addr) (cap : Nat) (xs : List Int) (w : World) (hI : Cells w p (xs.map (Value.int .u8))) (_ : xs.length ≤ 9223372036854775807) (hb : ∀ x ∈ xs, 0 ≤ x ∧ x ≤ 255) :
    Calls Try.prog 4 #[.slice p xs.length cap] w fun e w' => e = .returned (.bool true) ∧ Fresh w w' := by
  by_cases hbig : (65536 : Int) < (xs.length : Int)
  · have hbb : decide ((65536 : Int) < (xs.length : Int)) = true := decide_eq_true hbig
    go_enter Try.func4, Try.ntmps4
    go_wp2_with (go_at_call 5; refine (vBig_any p cap xs.length _).mono ?_; rw [hbb]; rintro e w1 ⟨rfl, rfl⟩)
    go_ret
    exact ⟨rfl, frefl _⟩
  have hbb : decide ((65536 : Int) < (xs.length : Int)) = false := decide_eq_false hbig
  have HDR := Lib.hid (drawFit_any p cap xs w ⟨hI, hb, by omega⟩)
  clear hI hb
  go_enter Try.func4, Try.ntmps4
  go_wp2_with (go_at_call 5; refine (vBig_any p cap xs.length _).mono ?_; rw [hbb]; rintro e w1 ⟨rfl, rfl⟩)
  refine (HDR.out).mono ?_
  rintro e w1 ⟨m, c, rfl, hm, hc, hf1⟩
  have HF1 := Lib.hid hf1
  clear hf1 HDR hbb
  cases ha : askB m c
  · have HP := Lib.hid (fitP_no ha)
    clear ha
    go_wp2_with fail
    refine (implFitPositions_any m c _).mono ?_; rw [HP.out]; rintro e w2 ⟨p2, c2, rfl, _, hf2⟩
    have HF2 := Lib.hid (fstep HF1.out hf2)
    clear hf2
    go_wp2_with fail
    refine (specFitPositions_any m c _).mono ?_; rw [HP.out]; rintro e w3 ⟨p3, c3, rfl, _, hf3⟩
    have HF3 := Lib.hid (fstep HF2.out hf3)
    clear hf3
    go_wp2
    go_ret
    exact ⟨rfl, HF3.out⟩
  · obtain ⟨hm2, hc2⟩ := askB_iff.1 ha
    obtain ⟨M, rfl⟩ : ∃ M : Nat, m = (M : Int) := ⟨m.toNat, by omega⟩
    have hM : M < 16777216 := by omega
    have HP := Lib.hid (fitP_yes ha)
    have HFR := Lib.hid (freeP_yes (m := (M : Int)) (by unfold maskB; exact inB_iff.2 (by omega)))
    obtain ⟨hro, hrc, hrs⟩ := runs_ok hM
    have HRO := Lib.hid hro
    have HRS := Lib.hid hrs
    have HAM := Lib.hid (allM_full hM)
    have HBE := Lib.hid (best_fits hM hc2.1 hc2.2)
    have HPC := Lib.hid (pop_cnt hM (Nat.le_refl 24))
    have hrl := runs_len (M : Int)
    obtain ⟨R, hR⟩ : ∃ R, R = runs (M : Int) := ⟨_, rfl⟩
    obtain ⟨F, hF⟩ : ∃ F, F = fits (M : Int) c := ⟨_, rfl⟩
    have hfl : F.length ≤ 25 := by rw [hF]; unfold fits; have := fitsTo_len (M : Int) c (25 - c).toNat; omega
    rw [← hF] at HP HBE
    rw [← hR] at HFR HRO HRS HAM hrl HBE
    have HA := Lib.hid ha
    have HRE := Lib.hid hR
    have HFE := Lib.hid hF
    have hpop : (pop.cntTo M 24 : Int) ≤ 24 := by have := pop.cntTo_le M 24; omega
    clear hro hrc hrs ha hR hF
    go_wp2_with fail
    refine (implFitPositions_any (M : Int) c _).mono ?_; rw [HP.out]; rintro e w2 ⟨p2, c2, rfl, ho2, hf2⟩
    have HO2 := Lib.hid ho2
    have HF2 := Lib.hid (fstep HF1.out hf2)
    clear hf2 ho2
    go_wp2_with fail
    refine (specFitPositions_any (M : Int) c _).mono ?_; rw [HP.out]; rintro e w3 ⟨p3, c3, rfl, _, hf3⟩
    have HF3 := Lib.hid (fstep HF2.out hf3)
    replace HO2 := Lib.hid (HO2.out.keep hf3)
    clear hf3
    go_wp2_with fail
    refine (implFreeRuns_any (M : Int) _).mono ?_; rw [HFR.out]; rintro e w4 ⟨p4, c4, rfl, ho4, hf4⟩
    have HF4 := Lib.hid (fstep HF3.out hf4)
    replace HO2 := Lib.hid (HO2.out.keep hf4)
    have HO4 := Lib.hid ho4
    clear hf4 ho4
    go_wp2_with fail
    refine (vBits_any M _ hM).mono ?_; rintro e w5 ⟨rfl, rfl⟩
    go_wp2
    go_loopw [11, 12, 13] (fun s al i wr => ∃ (j : Nat), j ≤ R.length ∧ i = .int .i64 j ∧ s = .int .i64 ((pop.cntTo M 24 : Int) + sumC (R.take j)) ∧ al = .int .i64 (allM M (R.take j) : Int) ∧ Fresh w4 wr) (fun _ _ i _ => R.length - (intOf i).toNat)
    case atStart => exact ⟨0, Nat.zero_le _, rfl, by simp [sumC], by simp [allM], frefl _⟩
    case round =>
      obtain ⟨j, hj, rfl, rfl, rfl, hf⟩ := hrel
      have HFW := Lib.hid hf
      have hbd := sumC_bd (Nat.le_refl 24) HRO.out j
      by_cases hlt : j < R.length
      · have hltz : (j : Int) < (R.length : Int) := by omega
        obtain ⟨b, off, x, y, rfl, hx, d0, d1⟩ := (HO4.out.keep hf).prs.at hlt
        obtain ⟨hgd, hap⟩ := run_apart hM (HRO.out (x, y) (List.mem_of_getElem? hx))
        simp only at hgd
        obtain ⟨e1, e2, e3⟩ := mkN_ok hgd
        obtain ⟨g1, g2, g3⟩ := goodB_iff.1 hgd
        have HBM := Lib.hid (bmF_good hgd)
        have hand : bits BinOp.and IntKind.i64 (mkF x y) (M : Int) = 0 := by
          rw [e1, and_i64 _ _ (lt63 e3) (lt63 hM), Nat.and_comm, hap]; rfl
        have hall := (allM_bit (Nat.le_refl 24) (l := R.take j) (fun r hr => HRO.out r (List.mem_of_mem_take hr)) hM).1
        have hor : bits BinOp.or IntKind.i64 (allM M (R.take j) : Int) (mkF x y) = ((allM M (R.take j) ||| mkN (x, y) : Nat) : Int) := by
          rw [e1, or_i64 _ _ (lt63 hall) (lt63 e3)]
        have htk : R.take (j + 1) = R.take j ++ [(x, y)] := by rw [List.take_add_one, hx]; rfl
        have HS1 : Hid (sumC (R.take (j + 1)) = sumC (R.take j) + y) := by show _ = _; rw [htk, sumC_snoc]
        have HA1 : Hid (allM M (R.take (j + 1)) = allM M (R.take j) ||| mkN (x, y)) := by show _ = _; rw [htk, allM_snoc]
        have hbd2 := sumC_bd (Nat.le_refl 24) HRO.out (j + 1)
        rw [HS1.out] at hbd2
        obtain ⟨S, hS⟩ : ∃ S, S = sumC (R.take j) := ⟨_, rfl⟩
        have hadd : IntKind.i64.wrap ((pop.cntTo M 24 : Int) + S + y) = (pop.cntTo M 24 : Int) + S + y := by rw [IntKind.wrap_i64]; omega
        rw [← hS] at HS1 ⊢
        obtain ⟨bm, hbm⟩ : ∃ b, b = mkF x y := ⟨_, rfl⟩
        rw [← hbm] at hand hor HBM
        clear hgd hap e1 e2 e3 hall htk hx hS hbm hbd hbd2
        go_wp2_with fail
        refine (implBlockMask_any x y _).mono ?_; rw [HBM.out]; rintro e w6 ⟨rfl, hf6⟩
        have d0' := fkeep hf6 d0
        have d1' := fkeep hf6 d1
        have HF6 := Lib.hid (fstep HFW.out hf6)
        clear hf6 hf
        go_wp2
        go_roundw
        case rel => exact ⟨j + 1, by omega, by go_num, by rw [HS1.out, Int.add_assoc], by rw [HA1.out], HF6.out⟩
        case measure => simp [intOf]; omega
      · have hjn : j = R.length := by omega
        have hltz : ¬ (j : Int) < (R.length : Int) := by omega
        have HSE : Hid ((pop.cntTo M 24 : Int) + sumC (R.take j) = 24) := by
          show _ = _
          rw [hjn, List.take_length, ← HPC.out]
          have := HRS.out
          omega
        have HAE : Hid ((allM M (R.take j) : Int) = 16777215) := by
          show _ = _
          rw [hjn, List.take_length, HAM.out]; rfl
        rw [HSE.out, HAE.out]
        have HFF := Lib.hid (fstep HF4.out hf)
        replace HO2 := Lib.hid (HO2.out.keep hf)
        clear hf hjn hbd
        by_cases hn : F = []
        · subst hn
          have H1 := Lib.hid (pickF_nil (g := headI) (m := (M : Int)) (c := c) HFE.out.symm)
          have H2 := Lib.hid (pickF_nil (g := lastFi) (m := (M : Int)) (c := c) HFE.out.symm)
          have H3 := Lib.hid (bestF_none (m := (M : Int)) (c := c) (by
            rw [← HRE.out]
            rcases Classical.em ((bestR c R).2 = 0) with h | h
            · exact h
            · exact absurd rfl (HBE.out.1.1 h)))
          go_wp2_with fail
          refine (implFirstFit_any (M : Int) c _).mono ?_; rw [H1.out]; rintro e w7 ⟨rfl, hf7⟩
          have HF7 := Lib.hid (fnew (fstep HFF.out hf7) (.cells #[.int .i64 0, .int .i64 0] 42))
          clear hf7
          unfold blkRes
          go_wp2_with fail
          refine (implLastFit_any (M : Int) c _).mono ?_; rw [H2.out]; rintro e w8 ⟨rfl, hf8⟩
          have HF8 := Lib.hid (fnew (fstep HF7.out hf8) (.cells #[.int .i64 0, .int .i64 0] 42))
          clear hf8
          unfold blkRes
          go_wp2_with fail
          refine (implBestFit_any (M : Int) c _).mono ?_; rw [H3.out]; rintro e w9 ⟨rfl, hf9⟩
          have HF9 := Lib.hid (fnew (fstep HF8.out hf9) (.cells #[.int .i64 0, .int .i64 0] 42))
          clear hf9
          unfold blkRes
          go_wp2
          go_ret
          exact ⟨rfl, HF9.out⟩
        · obtain ⟨x, l', hx⟩ := List.exists_cons_of_ne_nil hn
          have HXL := Lib.hid hx
          have hfx : fits (M : Int) c = x :: l' := by rw [← HFE.out, hx]
          have H1 : Hid (pickF headI (M : Int) c = (x, c, true)) := by show _ = _; rw [pickF_some HA.out hfx]; rfl
          obtain ⟨y, hy⟩ : ∃ y, F[F.length - 1]? = some y := ⟨_, List.getElem?_eq_getElem (by have := List.length_pos_iff.2 hn; omega)⟩
          have hly : lastFi (x :: l') = y := by
            apply last_of
            rw [← hx, show l'.length = F.length - 1 by rw [hx]; simp]
            exact hy
          have H2 : Hid (pickF lastFi (M : Int) c = (y, c, true)) := by show _ = _; rw [pickF_some HA.out hfx, hly]
          have hbr : (bestR c R).2 ≠ 0 := HBE.out.1.2 hn
          have hbm := HBE.out.2 hbr
          obtain ⟨bf, hbf⟩ : ∃ z, z = (bestR c R).1 := ⟨_, rfl⟩
          have H3 : Hid (bestF (M : Int) c = (bf, c, true)) := by show _ = _; rw [bestF_yes HA.out (by rw [← HRE.out]; exact hbr), ← HRE.out, ← hbf]
          rw [← hbf] at hbm
          have HBM := Lib.hid hbm
          have hpos : 0 < F.length := List.length_pos_iff.2 hn
          have hx0 : F[0]? = some x := by rw [hx]; rfl
          have HX0 := Lib.hid hx0
          have HY := Lib.hid hy
          clear hn hx hfx hly hbr hbm hbf hx0 hy
          go_wp2_with fail
          refine (implFirstFit_any (M : Int) c _).mono ?_; rw [H1.out]; rintro e w7 ⟨rfl, hf7⟩
          obtain ⟨W7, hW7⟩ : ∃ W, W = w7.alloc (.cells #[.int .i64 x, .int .i64 c] 42) := ⟨_, rfl⟩
          have hg7 : Fresh w7 W7 := by rw [hW7]; exact fnew (frefl _) _
          have hr7 : RowAt W7 w7.heap.size 42 [.int .i64 x, .int .i64 c] := by rw [hW7]; exact RowAt.new _ _ _
          have HW7 := Lib.hid hW7
          have HF7 := Lib.hid (fstep (fstep HFF.out hf7) hg7)
          have HR7 := Lib.hid hr7
          replace HO2 := Lib.hid ((HO2.out.keep hf7).keep hg7)
          clear hf7 hg7 hr7 hW7
          unfold blkRes
          go_wp2_with fail
          rw [← HW7.out]
          refine (implLastFit_any (M : Int) c _).mono ?_; rw [H2.out]; rintro e w8 ⟨rfl, hf8⟩
          obtain ⟨W8, hW8⟩ : ∃ W, W = w8.alloc (.cells #[.int .i64 y, .int .i64 c] 42) := ⟨_, rfl⟩
          have hg8 : Fresh w8 W8 := by rw [hW8]; exact fnew (frefl _) _
          have hr8 : RowAt W8 w8.heap.size 42 [.int .i64 y, .int .i64 c] := by rw [hW8]; exact RowAt.new _ _ _
          have HW8 := Lib.hid hW8
          have HF8 := Lib.hid (fstep (fstep HF7.out hf8) hg8)
          have HR8 := Lib.hid hr8
          replace HR7 := Lib.hid ((HR7.out.keep hf8).keep hg8)
          replace HO2 := Lib.hid ((HO2.out.keep hf8).keep hg8)
          clear hf8 hg8 hr8 hW8
          unfold blkRes
          go_wp2_with fail
          rw [← HW8.out]
          refine (implBestFit_any (M : Int) c _).mono ?_; rw [H3.out]; rintro e w9 ⟨rfl, hf9⟩
          obtain ⟨W9, hW9⟩ : ∃ W, W = w9.alloc (.cells #[.int .i64 bf, .int .i64 c] 42) := ⟨_, rfl⟩
          have hg9 : Fresh w9 W9 := by rw [hW9]; exact fnew (frefl _) _
          have hr9 : RowAt W9 w9.heap.size 42 [.int .i64 bf, .int .i64 c] := by rw [hW9]; exact RowAt.new _ _ _
          have HW9 := Lib.hid hW9
          have HF9 := Lib.hid (fstep (fstep HF8.out hf9) hg9)
          replace HR7 := Lib.hid ((HR7.out.keep hf9).keep hg9)
          replace HR8 := Lib.hid ((HR8.out.keep hf9).keep hg9)
          replace HO2 := Lib.hid ((HO2.out.keep hf9).keep hg9)
          have e0 := fun xa : After W9 => akeep (HR7.out.cell (i := 0) rfl) xa
          have e1 := fun xa : After W9 => akeep (HR8.out.cell (i := 0) rfl) xa
          have e2 := fun xa : After W9 => akeep (hr9.cell (i := 0) rfl) xa
          have e3 := fun xa : After W9 => akeep (hr9.cell (i := 1) rfl) xa
          have HVH : Hid (∀ xa : After W9, Calls Try.prog 21 #[.slice p2 F.length c2, .int .i64 bf] xa.w' fun e w' => e = .returned (.bool true) ∧ Fresh xa.w' w') := fun xa => by
            have h := vHas_any p2 c2 F bf xa.w' (HO2.out.keep xa.h).ints (by omega)
            rw [decide_eq_true HBM.out] at h
            exact h.mono fun e w' hh => ⟨hh.1, hh.2 ▸ frefl _⟩
          obtain ⟨b, off, z, hpp, hz, d0⟩ := HO2.out.ints.at (k := 0) hpos
          have hzx : z = x := by have := HX0.out; rw [hz] at this; exact Option.some.inj this
          subst hzx
          obtain ⟨b', off', z', hpp', hz', d1⟩ := HO2.out.ints.at (k := F.length - 1) (by omega)
          have hzy : z' = y := by have := HY.out; rw [hz'] at this; exact Option.some.inj this
          subst hzy
          rw [hpp] at hpp'
          cases hpp'
          rw [Nat.add_zero] at d0
          have e4 := fun xa : After W9 => akeep d0 xa
          have e5 := fun xa : After W9 => akeep d1 xa
          subst hpp
          have k1 : IntKind.i64.wrap ((F.length : Int) - 1) = (F.length : Int) - 1 := by rw [IntKind.wrap_i64]; omega
          have k2 : ((F.length : Int) - 1).toNat = F.length - 1 := by omega
          have k3 : 1 ≤ F.length := hpos
          have k4 : (0 : Int) < (F.length : Int) := by omega
          clear hf9 hg9 hr9 hW9 hz hz' d0 d1 hfl
          unfold blkRes
          go_wp2
          rw [← HW9.out]
          refine wp_region_after (by kernel_rfl) (by kernel_rfl) ?_
          repeat (go_big_quiet_step ((go_at_call 21; exact after_call (HVH.out _))))
          refine wpQuiet_nil ?_
          rintro _ ⟨xa, rfl⟩
          go_wp2
          go_ret
          exact ⟨rfl, fstep HF9.out xa.h⟩
end Go.Proofs.Ytnhjacaiggghnaa
