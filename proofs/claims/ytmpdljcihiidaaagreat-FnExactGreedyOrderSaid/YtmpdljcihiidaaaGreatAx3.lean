/- Contracts: the smallest assignment, the reference's search. -/
import Derived.Test.YtmpdljcihiidaaaGreatAx2
namespace Go.Proofs.YtmpdljcihiidaaaGreat
open Go.RowKit Go.PlainAid

theorem padZ_app_set {n : Nat} {pre : List (Int × Int)} (h : pre.length < n) (b0 b : Int × Int) : (padZ n (pre ++ [b0])).set pre.length b = padZ n (pre ++ [b]) := by
  rw [← padZ_set h b0, List.set_set, padZ_set h b]
theorem padZ_zero_set {n : Nat} {pre : List (Int × Int)} (h : pre.length < n) : (padZ n pre).set pre.length (0, 0) = padZ n pre := by
  have h1 := padZ_reset h (0, 0)
  rw [← padZ_set h, List.set_set] at h1
  exact h1
/-- Every row stays but for one. -/
def KpB (g0 : Nat) (w w' : World) : Prop := ∀ g t cs, RowAt w g t cs → g ≠ g0 → RowAt w' g t cs
theorem KpB.refl (g0 : Nat) (w : World) : KpB g0 w w := fun _ _ _ h _ => h
theorem KpB.trans {g0 : Nat} {a b c : World} (h : KpB g0 a b) (k : KpB g0 b c) : KpB g0 a c := fun g t cs hr n => k g t cs (h g t cs hr n) n
theorem KpB.fresh {g0 : Nat} {a b : World} (h : Fresh a b) : KpB g0 a b := fun g t cs hr _ => hr.keep h
theorem KpB.own {g0 base : Nat} {t : TypeId} {q : Option Addr} {xs : List Value} {a b : World} (k : KpB g0 a b) (h : Own a base t q xs) (hb : g0 < base) : Own b base t q xs := by
  rcases h with h | ⟨g, sp, h1, h2, h3⟩
  · exact Or.inl h
  · exact Or.inr ⟨g, sp, h1, h2, k _ _ _ h3 (by omega)⟩
theorem KpB.set {g0 : Nat} (w : World) (i j : Nat) (u v : Value) : KpB g0 w ((w.setCell ⟨g0, i, none⟩ u).setCell ⟨g0, j, none⟩ v) := fun g t cs h hn => (h.setOther hn u).setOther hn v
theorem row_put {w : World} {gB i : Nat} {B : List (Int × Int)} (h : RowAt w gB 71 (pcs B)) (x y : Int) : RowAt ((w.setCell ⟨gB, i * 2, none⟩ (.int .i64 x)).setCell ⟨gB, i * 2 + 1, none⟩ (.int .i64 y)) gB 71 (pcs (B.set i (x, y))) := by
  rw [← pcs_set]; exact (h.set (i * 2) _).set (i * 2 + 1) _
set_option maxHeartbeats 8000000 in
set_option maxRecDepth 100000 in
theorem l12Ext_any (w0 : World) (gB : Nat) (p : Option Addr) (cap : Nat) (l : List LQ) (h : Int) (hl : Reqs w0 p l) (hs : ReqsSmall l) (hc : CntOne (l.map LQ.val)) (h7 : l.length ≤ 7) (h0 : 0 ≤ h) (h24 : h ≤ 24) (g0 : w0.heap.size ≤ gB) :
    ∀ (k : Nat) (pre : List (Int × Int)) (w : World), pre.length + k = l.length → AGood pre → Fresh w0 w → RowAt w gB 71 (pcs (padZ l.length pre)) →
      Calls Tryz.prog 104 #[.slice p l.length cap, .slice (some ⟨gB, 0, none⟩) l.length l.length, .int .i64 (pre.length : Int), .int .i64 h] w fun e w' => e = .returned (.bool (exS (l.map LQ.val) h k pre).isSome) ∧ Fresh w0 w' ∧ RowAt w' gB 71 (pcs (padZ l.length ((exS (l.map LQ.val) h k pre).getD pre))) ∧ KpB gB w w' := by
  have HL := Lib.hid hl
  have HSM := Lib.hid hs
  have HC := Lib.hid hc
  have HML : Hid ((l.map LQ.val).length = l.length) := by show _ = _; simp
  clear hl hs hc
  intro k
  induction k with
  | zero =>
    intro pre w hk hg hf hr
    have hz : ((pre.length : Int) == (l.length : Int)) = true := by simp; omega
    have HF := Lib.hid hf
    have HR := Lib.hid hr
    clear hf hr hk
    go_enter Tryz.func104, Tryz.ntmps104
    go_wp2
    go_ret
    exact ⟨rfl, HF.out, HR.out, KpB.refl _ _⟩
  | succ k ih =>
    intro pre w hk hg hf hr
    have hz : ((pre.length : Int) == (l.length : Int)) = false := by rw [beq_eq_false_iff_ne]; omega
    have hil : pre.length < l.length := by omega
    have HIH := Lib.hid ih
    have HG := Lib.hid hg
    have HF := Lib.hid hf
    have HR := Lib.hid hr
    have HK := Lib.hid hk
    obtain ⟨R, hR⟩ : ∃ R, R = exS (l.map LQ.val) h (k + 1) pre := ⟨_, rfl⟩
    have HRR := Lib.hid hR
    obtain ⟨cn, hcn⟩ : ∃ c, c = cntOf (l.map LQ.val) pre.length := ⟨_, rfl⟩
    obtain ⟨b, off, x, rfl, hx, hm, _, _, _, d2⟩ := (HL.out.keep hf).at hil
    have hcx : cn = x.count := by rw [hcn]; exact cntOf_of (rq_at hx)
    have hc1 := HC.out x.val (List.mem_map_of_mem hm)
    simp only [LQ.val] at hc1
    rw [← hcx] at hc1 d2
    have HX := Lib.hid hx
    have HCX := Lib.hid hcx
    have HCN := Lib.hid hcn
    obtain ⟨T, hT⟩ : ∃ T : Int, T = (takenTo (l.map LQ.val) pre pre.length (l.map LQ.val).length : Int) := ⟨_, rfl⟩
    have HTT := Lib.hid hT
    have hpl : (padZ l.length pre).length = l.length := padZ_len (by omega)
    have HTK : Hid (∀ xa : After w, Calls Tryz.prog 146 #[.slice (some ⟨b, off, none⟩) l.length cap, .slice (some ⟨gB, 0, none⟩) l.length l.length, .int .i64 (pre.length : Int)] xa.w' fun e w' => e = .returned (.int .i64 T) ∧ Fresh xa.w' w') := by
      intro xa
      have h1 := l12Taken_any (some ⟨b, off, none⟩) (some ⟨gB, 0, none⟩) cap l.length l (padZ l.length pre) pre.length xa.w' (HL.out.keep (fstep hf xa.h)) HSM.out (HR.out.keep xa.h).cells (HG.out.pad _) (by rw [hpl]; exact Nat.le_refl _) hil (by rw [hpl]; omega)
      rw [hpl, taken_pad, ← HML.out, ← hT, HML.out] at h1
      exact h1
    have j2 := fun xa : After w => akeep d2 xa
    have HFT : Hid (∀ w', Calls Tryz.prog 145 #[.int .i64 T, .int .i64 cn] w' (OutInts w' (fits T cn))) := fun w' => l8Fits_any T cn w' hc1.1 hc1.2
    have hlz : (pre.length : Int) < (l.length : Int) := by omega
    rw [← hR]
    clear hk ih hg hf hr hR hcn hx hm hcx hT hpl d2
    go_enter Tryz.func104, Tryz.ntmps104
    go_wp2
    refine wp_region_after_tail 9 (by kernel_rfl) (by kernel_rfl) ?_
    simp only [List.take_succ_cons, List.take_zero, List.drop_succ_cons, List.drop_zero]
    repeat (go_big_quiet_step ((go_at_call 146; exact after_call (HTK.out _))))
    refine wpQuiet_nil ?_
    intro xa
    go_wp2_with fail
    refine (HFT.out _).mono ?_
    rintro e w2 ⟨pf, cf, rfl, hof, hb2⟩
    have HF2 := Lib.hid (fstep (fstep HF.out xa.h) hb2)
    have HW2 := Lib.hid (fstep xa.h hb2)
    have hgw : gB < w.heap.size := HR.out.lt
    have HOW := Lib.hid (hof.mono xa.h.size)
    have HOF := Lib.hid hof
    have HRW := Lib.hid ((HR.out.keep xa.h).keep hb2)
    obtain ⟨FS, hFS⟩ : ∃ FS, FS = fits T cn := ⟨_, rfl⟩
    have hfl : FS.length ≤ 24 := by
      rw [hFS]; unfold fits
      exact Nat.le_trans (fitsTo_len _ _ _) (by omega)
    have HFS := Lib.hid hFS
    rw [← hFS] at HOW ⊢
    have hplen : (padZ l.length pre).length = l.length := padZ_len (by omega)
    clear hb2 hof j2 hFS HTK HFT
    go_wp2
    go_loopw [10] (fun i wr => ∃ (j : Nat) (B : List (Int × Int)), j ≤ FS.length ∧ i = .int .i64 j ∧ (B = padZ l.length pre ∨ ∃ b0, B = padZ l.length (pre ++ [b0])) ∧ RowAt wr gB 71 (pcs B) ∧ Fresh w0 wr ∧ KpB gB w2 wr ∧ (∀ i g, i < j → FS[i]? = some g → exS (l.map LQ.val) h k (pre ++ [(g, cn)]) = none)) (fun i _ => FS.length - (intOf i).toNat)
    case atStart => exact ⟨0, _, Nat.zero_le _, rfl, Or.inl rfl, HRW.out, HF2.out, KpB.refl _ _, fun i g h => by omega⟩
    case round =>
      obtain ⟨j, B, hj, rfl, hBf, hrow, hf, hkp, hno⟩ := hrel
      have hBl : B.length = l.length := by
        rcases hBf with rfl | ⟨b0, rfl⟩
        · exact hplen
        · exact padZ_len (by simp; omega)
      have HSET : Hid (∀ b, B.set pre.length b = padZ l.length (pre ++ [b])) := by
        intro b
        rcases hBf with rfl | ⟨b0, rfl⟩
        · exact padZ_set hil b
        · exact padZ_app_set hil b0 b
      have HZERO : Hid (B.set pre.length (0, 0) = padZ l.length pre) := by
        show _ = _
        rcases hBf with rfl | ⟨b0, rfl⟩
        · exact padZ_zero_set hil
        · exact padZ_reset hil b0
      obtain ⟨bi, hBi⟩ : ∃ b, B[pre.length]? = some b := ⟨_, List.getElem?_eq_getElem (by rw [hBl]; exact hil)⟩
      obtain ⟨q0, q1⟩ := pcs_get hBi
      have HROW := Lib.hid hrow
      have HFR := Lib.hid hf
      have HKP := Lib.hid hkp
      have HNO := Lib.hid hno
      have hr0 := hrow.cell q0
      have hr1 := hrow.cell q1
      have hf0 := hrow.frozen (pre.length * 2)
      have hf1 := hrow.frozen (pre.length * 2 + 1)
      have hoi := hkp.own HOW.out hgw
      obtain ⟨b', off', x', hpe, hx', _, _, _, _, d2⟩ := (HL.out.keep hf).at hil
      have hxx : x' = x := by have := HX.out; rw [hx'] at this; exact Option.some.inj this
      subst hxx
      cases hpe
      rw [← HCX.out] at d2
      clear hrow hf hkp hno hBi q0 q1 hx' hBf
      by_cases hlt : j < FS.length
      · have hltz : (j : Int) < (FS.length : Int) := by omega
        obtain ⟨bf, of, f, rfl, hfx, hfc⟩ := hoi.ints.at hlt
        obtain ⟨g, rfl, hfree, hg24⟩ := fits_at (m := T) (c := cn) (j := j) (by rw [← HFS.out]; exact hfx)
        have HFX := Lib.hid hfx
        have hadd : IntKind.i64.wrap ((g : Int) + cn) = (g : Int) + cn := by rw [IntKind.wrap_i64]; omega
        have hgood : goodB (g : Int) cn = true := goodB_iff.2 ⟨by omega, hc1.1, by omega⟩
        have HGD := Lib.hid hgood
        have v0 := fun xa : After wr => akeep hfc xa
        have v1 := fun xa : After wr => akeep d2 xa
        clear hoi hfx hfree hgood
        by_cases hle : (g : Int) + cn ≤ h
        · have HLE := Lib.hid hle
          have hone : IntKind.i64.wrap ((pre.length : Int) + 1) = (pre.length : Int) + 1 := by rw [IntKind.wrap_i64]; omega
          have HCC : Hid (∀ W, Fresh w0 W → RowAt W gB 71 (pcs (padZ l.length (pre ++ [((g : Int), cn)]))) → Calls Tryz.prog 104 #[.slice (some ⟨b, off, none⟩) l.length cap, .slice (some ⟨gB, 0, none⟩) l.length l.length, .int .i64 ((pre.length : Int) + 1), .int .i64 h] W fun e w' => e = .returned (.bool (exS (l.map LQ.val) h k (pre ++ [((g : Int), cn)])).isSome) ∧ Fresh w0 w' ∧ RowAt w' gB 71 (pcs (padZ l.length ((exS (l.map LQ.val) h k (pre ++ [((g : Int), cn)])).getD (pre ++ [((g : Int), cn)])))) ∧ KpB gB W w') := by
            intro W hW hR
            have := HIH.out (pre ++ [((g : Int), cn)]) W (by have := HK.out; rw [List.length_append]; show pre.length + 1 + k = _; omega) (AGood.snoc HG.out (b := ((g : Int), cn)) HGD.out) hW hR
            rw [show (((pre ++ [((g : Int), cn)]).length : Nat) : Int) = (pre.length : Int) + 1 by simp] at this
            exact this
          go_wp2
          refine wp_region_after (by kernel_rfl) (by kernel_rfl) ?_
          repeat (go_big_quiet_step (fail))
          refine wpQuiet_nil ?_
          rintro _ ⟨xa5, rfl⟩
          obtain ⟨w5, hw5⟩ : ∃ W, W = xa5.w' := ⟨_, rfl⟩
          have hf5 : Fresh wr w5 := by rw [hw5]; exact xa5.h
          rw [← hw5]
          clear hw5 v0 v1
          have t0 := fkeep hf5 hfc
          have t1 := fkeep hf5 d2
          have hrow5 := HROW.out.keep hf5
          have t2 := fkeep hf5 hr0
          have t3 := fkeep hf5 hr1
          have t4 := hrow5.frozen (pre.length * 2)
          have t5 := hrow5.frozen (pre.length * 2 + 1)
          have HROW5 := Lib.hid hrow5
          have HF5 := Lib.hid hf5
          clear hfc d2 hr0 hr1 hf0 hf1 hrow5 hf5
          go_wp2
          go_region
          go_wp2_with fail
          have HCX := Lib.hid (HCC.out (((w5.setCell ⟨gB, pre.length * 2, none⟩ (.int .i64 (g : Int))).setCell ⟨gB, pre.length * 2 + 1, none⟩ (.int .i64 cn)).drew) (fdrew (fset (fset (fstep HFR.out HF5.out) g0 _) g0 _)) (by rw [← HSET.out]; exact (row_put HROW5.out _ _).keep (fdrew (frefl _))))
          refine (HCX.out).mono ?_
          rintro e w6 ⟨rfl, hf6, hr6, hk6⟩
          have HK6 : Hid (KpB gB w2 w6) := HKP.out.trans ((KpB.fresh HF5.out).trans ((KpB.set _ _ _ _ _).trans ((KpB.fresh (fdrew (frefl _))).trans hk6)))
          cases hres : exS (l.map LQ.val) h k (pre ++ [((g : Int), cn)]) with
          | some B' =>
            rw [hres] at hr6
            have HR6 := Lib.hid hr6
            have HF6 := Lib.hid hf6
            have HRS : Hid (R = some B') := by
              show _ = _
              rw [HRR.out]
              exact exS_fits_some HCN.out.symm HTT.out.symm h24 (by rw [← HFS.out]; exact HFX.out) HLE.out hres fun i g' hi hg' => HNO.out i g' hi (by rw [HFS.out]; exact hg')
            clear hf6 hr6 hk6 hres t0 t1 t2 t3 t4 t5 HCX HCC
            simp only [Option.isSome_some]
            go_wp2
            go_ret
            rw [HRS.out]
            exact ⟨rfl, HF6.out, HR6.out, (KpB.fresh HW2.out).trans HK6.out⟩
          | none =>
            rw [hres] at hr6
            simp only [Option.getD_none] at hr6
            have HR6 := Lib.hid hr6
            have HF6 := Lib.hid hf6
            have HNO2 : Hid (∀ i g', i < j + 1 → FS[i]? = some g' → exS (l.map LQ.val) h k (pre ++ [(g', cn)]) = none) := by
              intro i g' hi hg'
              rcases Nat.eq_or_lt_of_le (show i ≤ j by omega) with h' | h'
              · subst h'
                rw [HFX.out] at hg'
                cases hg'; exact hres
              · exact HNO.out i g' h' hg'
            clear hf6 hr6 hk6 hres t0 t1 t2 t3 t4 t5 HCX HCC
            simp only [Option.isSome_none]
            go_wp2
            go_roundw
            case rel => exact ⟨j + 1, _, by omega, by go_num, Or.inr ⟨_, rfl⟩, HR6.out, HF6.out, HK6.out, HNO2.out⟩
            case measure => simp [intOf]; omega
        · have HRN : Hid (R = none) := by
            show _ = _
            rw [HRR.out]
            refine exS_fits_none (j := j) HCN.out.symm HTT.out.symm h24 (fun f' hf' => ?_) fun i g' hi hg' => HNO.out i g' hi (by rw [HFS.out]; exact hg')
            rw [← HFS.out, HFX.out] at hf'
            cases hf'; omega
          go_wp2
          refine wp_region_after (by kernel_rfl) (by kernel_rfl) ?_
          repeat (go_big_quiet_step (fail))
          refine wpQuiet_nil ?_
          rintro _ ⟨xa5, rfl⟩
          obtain ⟨w5, hw5⟩ : ∃ W, W = xa5.w' := ⟨_, rfl⟩
          have hf5 : Fresh wr w5 := by rw [hw5]; exact xa5.h
          rw [← hw5]
          clear hw5 v0 v1 hfc
          have hrow5 := HROW.out.keep hf5
          have t2 := fkeep hf5 hr0
          have t3 := fkeep hf5 hr1
          have t4 := hrow5.frozen (pre.length * 2)
          have t5 := hrow5.frozen (pre.length * 2 + 1)
          have HROW5 := Lib.hid hrow5
          have HF5 := Lib.hid hf5
          clear d2 hr0 hr1 hf0 hf1 hrow5 hf5
          go_wp2
          go_ret
          rw [HRN.out]
          refine ⟨rfl, fset (fset (fstep HFR.out HF5.out) g0 _) g0 _, ?_, (KpB.fresh HW2.out).trans (HKP.out.trans ((KpB.fresh HF5.out).trans (KpB.set _ _ _ _ _)))⟩
          have := row_put (i := pre.length) HROW5.out 0 0
          rw [HZERO.out] at this
          exact this
      · have hltz : ¬ (j : Int) < (FS.length : Int) := by omega
        have HRN : Hid (R = none) := by
          show _ = _
          rw [HRR.out]
          refine exS_fits_none (j := j) HCN.out.symm HTT.out.symm h24 (fun f' hf' => ?_) fun i g' hi hg' => HNO.out i g' hi (by rw [HFS.out]; exact hg')
          rw [← HFS.out, List.getElem?_eq_none (by omega)] at hf'
          cases hf'
        clear hoi
        go_wp2
        refine wp_region_after (by kernel_rfl) (by kernel_rfl) ?_
        repeat (go_big_quiet_step (fail))
        refine wpQuiet_nil ?_
        rintro _ ⟨xa5, rfl⟩
        obtain ⟨w5, hw5⟩ : ∃ W, W = xa5.w' := ⟨_, rfl⟩
        have hf5 : Fresh wr w5 := by rw [hw5]; exact xa5.h
        rw [← hw5]
        clear hw5 
        have hrow5 := HROW.out.keep hf5
        have t2 := fkeep hf5 hr0
        have t3 := fkeep hf5 hr1
        have t4 := hrow5.frozen (pre.length * 2)
        have t5 := hrow5.frozen (pre.length * 2 + 1)
        have HROW5 := Lib.hid hrow5
        have HF5 := Lib.hid hf5
        clear d2 hr0 hr1 hf0 hf1 hrow5 hf5
        go_wp2
        go_ret
        rw [HRN.out]
        refine ⟨rfl, fset (fset (fstep HFR.out HF5.out) g0 _) g0 _, ?_, (KpB.fresh HW2.out).trans (HKP.out.trans ((KpB.fresh HF5.out).trans (KpB.set _ _ _ _ _)))⟩
        have := row_put (i := pre.length) HROW5.out 0 0
        rw [HZERO.out] at this
        exact this
end Go.Proofs.YtmpdljcihiidaaaGreat
