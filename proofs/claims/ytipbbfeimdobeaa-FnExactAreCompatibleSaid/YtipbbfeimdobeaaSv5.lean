/- Contracts: whether two services go together, both sides. -/
import Derived.Test.YtipbbfeimdobeaaSv4
namespace Go.Proofs.Ytipbbfeimdobeaa
open Go.RowKit Go.PlainAid

set_option maxHeartbeats 4000000 in
set_option maxRecDepth 100000 in
theorem compatible_any (v : Value) (n : Net) (x y : LS) (w : World) (h : NetIn w v n) (hnet : netB n = true) (gx : svB n x.val = true) (gy : svB n y.val = true) (hI : IntsS w x) (hJ : IntsS w y) (hn : SvSm 1048576 x) (hm : SvSm 1048576 y) :
    Calls Try.prog 46 #[v, lsV x, lsV y] w fun e w' => e = .returned (.bool (compB n x.val y.val)) ∧ Fresh w w' := by
  have h14 := netB_14 hnet
  have HRK := Lib.hid (netB_risk hnet)
  obtain ⟨fx1, fx2⟩ := svB_inF gx
  obtain ⟨fy1, fy2⟩ := svB_inF gy
  obtain ⟨bx1, bx2⟩ := svB_blocks gx
  obtain ⟨by1, by2⟩ := svB_blocks gy
  obtain ⟨id, cl, ⟨s, q, cap, l⟩, wf, wc, ⟨t, r, dap, m⟩, sf, sc⟩ := x
  obtain ⟨id', cl', ⟨s', q', cap', l'⟩, wf', wc', ⟨t', r', dap', m'⟩, sf', sc'⟩ := y
  obtain ⟨hi1, hi2⟩ := hI
  obtain ⟨hj1, hj2⟩ := hJ
  obtain ⟨hn1, hn2⟩ := hn
  obtain ⟨hm1, hm2⟩ := hm
  simp only [LS.val, LR.val] at hi1 hi2 hj1 hj2 hn1 hn2 hm1 hm2 fx1 fx2 fy1 fy2 bx1 bx2 by1 by2 ⊢
  have HX1 : Hid (BOk (wf, wc)) := Lib.hid (Or.inl bx1)
  have HX2 : Hid (BOk (sf, sc)) := Lib.hid bx2
  have HY1 : Hid (BOk (wf', wc')) := Lib.hid (Or.inl by1)
  have HY2 : Hid (BOk (sf', sc')) := Lib.hid by2
  have HFX := Lib.hid fx1
  have HFY := Lib.hid fy1
  have HN := Lib.hid h
  obtain ⟨q1, mm, c, p, k, d, rfl⟩ := h.shape
  clear h hnet gx gy fx1 fx2 fy1 fy2 bx1 bx2 by1 by2
  obtain ⟨W3, hW3, hsz3, hf3, r1, r2, r3⟩ := three_rows w [.slice q1 mm c, .slice p k d] [.int .i64 id, .int .i64 cl, .int .i64 s, .slice q l.length cap, .int .i64 wf, .int .i64 wc, .int .i64 t, .slice r m.length dap, .int .i64 sf, .int .i64 sc] [.int .i64 id', .int .i64 cl', .int .i64 s', .slice q' l'.length cap', .int .i64 wf', .int .i64 wc', .int .i64 t', .slice r' m'.length dap', .int .i64 sf', .int .i64 sc'] 34 58 58
  have HI1 := Lib.hid (hi1.keep hf3)
  have HI2 := Lib.hid (hi2.keep hf3)
  have HJ1 := Lib.hid (hj1.keep hf3)
  have HJ2 := Lib.hid (hj2.keep hf3)
  have HF := Lib.hid hf3
  have HB : Hid (Fresh W3 W3) := frefl _
  have HW3 := Lib.hid hW3
  have HSV : Hid (compB n ⟨id, cl, (s, l), (wf, wc), (t, m), (sf, sc)⟩ ⟨id', cl', (s', l'), (wf', wc'), (t', m'), (sf', sc')⟩ = (!(clashB l (wf, wc) l' (wf', wc')) && !(clashB l (wf, wc) m' (sf', sc')) && !(clashB m (sf, sc) l' (wf', wc')) &&
    ((decide (cl = 2) && decide (cl' = 2) && apartF n.fibers l l') || !(clashB m (sf, sc) m' (sf', sc'))))) := Lib.hid rfl
  obtain ⟨SV, hSV⟩ : ∃ SV, SV = compB n ⟨id, cl, (s, l), (wf, wc), (t, m), (sf, sc)⟩ ⟨id', cl', (s', l'), (wf', wc'), (t', m'), (sf', sc')⟩ := ⟨_, rfl⟩
  rw [← hSV] at HSV ⊢
  have a0 := r2.cell (i := 0) rfl
  have a1 := r2.cell (i := 1) rfl
  have a2 := r2.cell (i := 2) rfl
  have a3 := r2.cell (i := 3) rfl
  have a4 := r2.cell (i := 4) rfl
  have a5 := r2.cell (i := 5) rfl
  have a6 := r2.cell (i := 6) rfl
  have a7 := r2.cell (i := 7) rfl
  have a8 := r2.cell (i := 8) rfl
  have a9 := r2.cell (i := 9) rfl
  have b0 := r3.cell (i := 0) rfl
  have b1 := r3.cell (i := 1) rfl
  have b2 := r3.cell (i := 2) rfl
  have b3 := r3.cell (i := 3) rfl
  have b4 := r3.cell (i := 4) rfl
  have b5 := r3.cell (i := 5) rfl
  have b6 := r3.cell (i := 6) rfl
  have b7 := r3.cell (i := 7) rfl
  have b8 := r3.cell (i := 8) rfl
  have b9 := r3.cell (i := 9) rfl
  have n0 := r1.cell (i := 0) rfl
  have n1 := r1.cell (i := 1) rfl
  clear hSV hW3 hsz3 hf3 r1 r2 r3 hi1 hi2 hj1 hj2
  go_enter Try.func46, Try.ntmps46
  go_wp2_with fail
  rw [← HW3.out]
  refine (overlap_any s s' q q' cap cap' l l' wf wc wf' wc' _ HX1.out HY1.out (HI1.out.keep HB.out) (HJ1.out.keep HB.out) hn1 hm1).mono ?_
  rintro e w1 ⟨rfl, hb⟩
  replace a0 := fkeep hb a0
  replace a1 := fkeep hb a1
  replace a2 := fkeep hb a2
  replace a3 := fkeep hb a3
  replace a4 := fkeep hb a4
  replace a5 := fkeep hb a5
  replace a6 := fkeep hb a6
  replace a7 := fkeep hb a7
  replace a8 := fkeep hb a8
  replace a9 := fkeep hb a9
  replace b0 := fkeep hb b0
  replace b1 := fkeep hb b1
  replace b2 := fkeep hb b2
  replace b3 := fkeep hb b3
  replace b4 := fkeep hb b4
  replace b5 := fkeep hb b5
  replace b6 := fkeep hb b6
  replace b7 := fkeep hb b7
  replace b8 := fkeep hb b8
  replace b9 := fkeep hb b9
  replace n0 := fkeep hb n0
  replace n1 := fkeep hb n1
  replace HF := Lib.hid (fstep HF.out hb)
  replace HB := Lib.hid (fstep HB.out hb)
  clear hb
  cases h1 : clashB l (wf, wc) l' (wf', wc')
  rotate_left
  · have HE : Hid (SV = false) := by show _ = _; rw [HSV.out, h1]; simp
    clear h1
    go_wp2
    go_ret
    exact ⟨ret_bool HE.out.symm, HF.out⟩
  have H1 := Lib.hid h1
  clear h1
  go_wp2_with fail
  refine (overlap_any s t' q r' cap dap' l m' wf wc sf' sc' _ HX1.out HY2.out (HI1.out.keep HB.out) (HJ2.out.keep HB.out) hn1 hm2).mono ?_
  rintro e w2 ⟨rfl, hb⟩
  replace a0 := fkeep hb a0
  replace a1 := fkeep hb a1
  replace a2 := fkeep hb a2
  replace a3 := fkeep hb a3
  replace a4 := fkeep hb a4
  replace a5 := fkeep hb a5
  replace a6 := fkeep hb a6
  replace a7 := fkeep hb a7
  replace a8 := fkeep hb a8
  replace a9 := fkeep hb a9
  replace b0 := fkeep hb b0
  replace b1 := fkeep hb b1
  replace b2 := fkeep hb b2
  replace b3 := fkeep hb b3
  replace b4 := fkeep hb b4
  replace b5 := fkeep hb b5
  replace b6 := fkeep hb b6
  replace b7 := fkeep hb b7
  replace b8 := fkeep hb b8
  replace b9 := fkeep hb b9
  replace n0 := fkeep hb n0
  replace n1 := fkeep hb n1
  replace HF := Lib.hid (fstep HF.out hb)
  replace HB := Lib.hid (fstep HB.out hb)
  clear hb
  cases h2 : clashB l (wf, wc) m' (sf', sc')
  rotate_left
  · have HE : Hid (SV = false) := by show _ = _; rw [HSV.out, h2]; simp
    clear h2
    go_wp2
    go_ret
    exact ⟨ret_bool HE.out.symm, HF.out⟩
  have H2 := Lib.hid h2
  clear h2
  go_wp2_with fail
  refine (overlap_any t s' r q' dap cap' m l' sf sc wf' wc' _ HX2.out HY1.out (HI2.out.keep HB.out) (HJ1.out.keep HB.out) hn2 hm1).mono ?_
  rintro e w3 ⟨rfl, hb⟩
  replace a0 := fkeep hb a0
  replace a1 := fkeep hb a1
  replace a2 := fkeep hb a2
  replace a3 := fkeep hb a3
  replace a4 := fkeep hb a4
  replace a5 := fkeep hb a5
  replace a6 := fkeep hb a6
  replace a7 := fkeep hb a7
  replace a8 := fkeep hb a8
  replace a9 := fkeep hb a9
  replace b0 := fkeep hb b0
  replace b1 := fkeep hb b1
  replace b2 := fkeep hb b2
  replace b3 := fkeep hb b3
  replace b4 := fkeep hb b4
  replace b5 := fkeep hb b5
  replace b6 := fkeep hb b6
  replace b7 := fkeep hb b7
  replace b8 := fkeep hb b8
  replace b9 := fkeep hb b9
  replace n0 := fkeep hb n0
  replace n1 := fkeep hb n1
  replace HF := Lib.hid (fstep HF.out hb)
  replace HB := Lib.hid (fstep HB.out hb)
  clear hb
  cases h3 : clashB m (sf, sc) l' (wf', wc')
  rotate_left
  · have HE : Hid (SV = false) := by show _ = _; rw [HSV.out, h3]; simp
    clear h3
    go_wp2
    go_ret
    exact ⟨ret_bool HE.out.symm, HF.out⟩
  have H3 := Lib.hid h3
  clear h3
  have HS2 : Hid (SV = ((decide (cl = 2) && decide (cl' = 2) && apartF n.fibers l l') || !(clashB m (sf, sc) m' (sf', sc')))) := by show _ = _; rw [HSV.out, H1.out, H2.out, H3.out]; rfl
  clear HSV
  have HD : Hid (∀ W, Fresh w3 W → Calls Try.prog 75 #[.agg #[.int .i64 t, .slice r m.length dap], .agg #[.int .i64 sf, .int .i64 sc], .agg #[.int .i64 t', .slice r' m'.length dap'], .agg #[.int .i64 sf', .int .i64 sc']] W fun e w' => e = .returned (.bool (clashB m (sf, sc) m' (sf', sc'))) ∧ Fresh W w') := fun W hW => overlap_any t t' r r' dap dap' m m' sf sc sf' sc' W HX2.out HY2.out (HI2.out.keep (fstep HB.out hW)) (HJ2.out.keep (fstep HB.out hW)) hn2 hm2
  obtain ⟨D, hD⟩ : ∃ D, D = clashB m (sf, sc) m' (sf', sc') := ⟨_, rfl⟩
  rw [← hD] at HD HS2
  have HA : Hid (Calls Try.prog 74 #[.agg #[.slice q1 mm c, .slice p k d], .slice q l.length cap, .slice q' l'.length cap'] w3 fun e w' => e = .returned (.bool (apartF n.fibers l l')) ∧ Fresh w3 w') := apart_any _ n q q' cap cap' l l' w3 (HN.out.keep HF.out) h14 HRK.out (HI1.out.keep HB.out) hn1 (HJ1.out.keep HB.out) hm1 HFX.out HFY.out
  obtain ⟨AP, hAP⟩ : ∃ AP, AP = apartF n.fibers l l' := ⟨_, rfl⟩
  rw [← hAP] at HA HS2
  clear hAP hD
  by_cases hca : cl = 2
  · have hca' : (cl == 2) = true := by simp [hca]
    by_cases hcb : cl' = 2
    · have hcb' : (cl' == 2) = true := by simp [hcb]
      have HS3 : Hid (SV = (AP || !D)) := by show _ = _; rw [HS2.out]; simp [hca, hcb]
      clear hca hcb HS2
      go_wp2_with fail
      refine (HA.out).mono ?_
      rintro e w4 ⟨rfl, hb⟩
      have HZ := Lib.hid hb
      replace a0 := fkeep hb a0
      replace a1 := fkeep hb a1
      replace a2 := fkeep hb a2
      replace a3 := fkeep hb a3
      replace a4 := fkeep hb a4
      replace a5 := fkeep hb a5
      replace a6 := fkeep hb a6
      replace a7 := fkeep hb a7
      replace a8 := fkeep hb a8
      replace a9 := fkeep hb a9
      replace b0 := fkeep hb b0
      replace b1 := fkeep hb b1
      replace b2 := fkeep hb b2
      replace b3 := fkeep hb b3
      replace b4 := fkeep hb b4
      replace b5 := fkeep hb b5
      replace b6 := fkeep hb b6
      replace b7 := fkeep hb b7
      replace b8 := fkeep hb b8
      replace b9 := fkeep hb b9
      replace n0 := fkeep hb n0
      replace n1 := fkeep hb n1
      replace HF := Lib.hid (fstep HF.out hb)
      replace HB := Lib.hid (fstep HB.out hb)
      clear hb
      cases AP
      · have HE : Hid (SV = !D) := by show _ = _; rw [HS3.out]; rfl
        go_wp2_with fail
        refine (HD.out _ HZ.out).mono ?_
        rintro e w5 ⟨rfl, hb⟩
        have HFE := Lib.hid (fstep HF.out hb)
        clear hb
        go_wp2
        go_ret
        exact ⟨ret_bool HE.out.symm, HFE.out⟩
      · have HE : Hid (SV = true) := by show _ = _; rw [HS3.out]; rfl
        go_wp2
        go_ret
        exact ⟨ret_bool HE.out.symm, HF.out⟩
    · have hcb' : (cl' == 2) = false := by simp [hcb]
      have HE : Hid (SV = !D) := by show _ = _; rw [HS2.out]; simp [hcb]
      clear hca hcb HS2
      go_wp2_with fail
      refine (HD.out _ (frefl _)).mono ?_
      rintro e w5 ⟨rfl, hb⟩
      have HFE := Lib.hid (fstep HF.out hb)
      clear hb
      go_wp2
      go_ret
      exact ⟨ret_bool HE.out.symm, HFE.out⟩
  · have hca' : (cl == 2) = false := by simp [hca]
    have HE : Hid (SV = !D) := by show _ = _; rw [HS2.out]; simp [hca]
    clear hca HS2
    go_wp2_with fail
    refine (HD.out _ (frefl _)).mono ?_
    rintro e w5 ⟨rfl, hb⟩
    have HFE := Lib.hid (fstep HF.out hb)
    clear hb
    go_wp2
    go_ret
    exact ⟨ret_bool HE.out.symm, HFE.out⟩
set_option maxHeartbeats 4000000 in
set_option maxRecDepth 100000 in
theorem l13Compatible_any (v : Value) (n : Net) (x y : LS) (w : World) (h : NetIn w v n) (hnet : netB n = true) (gx : svB n x.val = true) (gy : svB n y.val = true) (hI : IntsS w x) (hJ : IntsS w y) (hn : SvSm 1048576 x) (hm : SvSm 1048576 y) :
    Calls Try.prog 41 #[v, lsV x, lsV y] w fun e w' => e = .returned (.bool (compB n x.val y.val)) ∧ Fresh w w' := by
  have h14 := netB_14 hnet
  have HRK := Lib.hid (netB_risk hnet)
  obtain ⟨fx1, fx2⟩ := svB_inF gx
  obtain ⟨fy1, fy2⟩ := svB_inF gy
  obtain ⟨bx1, bx2⟩ := svB_blocks gx
  obtain ⟨by1, by2⟩ := svB_blocks gy
  obtain ⟨id, cl, ⟨s, q, cap, l⟩, wf, wc, ⟨t, r, dap, m⟩, sf, sc⟩ := x
  obtain ⟨id', cl', ⟨s', q', cap', l'⟩, wf', wc', ⟨t', r', dap', m'⟩, sf', sc'⟩ := y
  obtain ⟨hi1, hi2⟩ := hI
  obtain ⟨hj1, hj2⟩ := hJ
  obtain ⟨hn1, hn2⟩ := hn
  obtain ⟨hm1, hm2⟩ := hm
  simp only [LS.val, LR.val] at hi1 hi2 hj1 hj2 hn1 hn2 hm1 hm2 fx1 fx2 fy1 fy2 bx1 bx2 by1 by2 ⊢
  have HX1 : Hid (BOk (wf, wc)) := Lib.hid (Or.inl bx1)
  have HX2 : Hid (BOk (sf, sc)) := Lib.hid bx2
  have HY1 : Hid (BOk (wf', wc')) := Lib.hid (Or.inl by1)
  have HY2 : Hid (BOk (sf', sc')) := Lib.hid by2
  have HFX := Lib.hid fx1
  have HFY := Lib.hid fy1
  have HN := Lib.hid h
  obtain ⟨q1, mm, c, p, k, d, rfl⟩ := h.shape
  clear h hnet gx gy fx1 fx2 fy1 fy2 bx1 bx2 by1 by2
  obtain ⟨W3, hW3, hsz3, hf3, r1, r2, r3⟩ := three_rows w [.slice q1 mm c, .slice p k d] [.int .i64 id, .int .i64 cl, .int .i64 s, .slice q l.length cap, .int .i64 wf, .int .i64 wc, .int .i64 t, .slice r m.length dap, .int .i64 sf, .int .i64 sc] [.int .i64 id', .int .i64 cl', .int .i64 s', .slice q' l'.length cap', .int .i64 wf', .int .i64 wc', .int .i64 t', .slice r' m'.length dap', .int .i64 sf', .int .i64 sc'] 34 58 58
  have HI1 := Lib.hid (hi1.keep hf3)
  have HI2 := Lib.hid (hi2.keep hf3)
  have HJ1 := Lib.hid (hj1.keep hf3)
  have HJ2 := Lib.hid (hj2.keep hf3)
  have HF := Lib.hid hf3
  have HB : Hid (Fresh W3 W3) := frefl _
  have HW3 := Lib.hid hW3
  have HSV : Hid (compB n ⟨id, cl, (s, l), (wf, wc), (t, m), (sf, sc)⟩ ⟨id', cl', (s', l'), (wf', wc'), (t', m'), (sf', sc')⟩ = (!(clashB l (wf, wc) l' (wf', wc')) && !(clashB l (wf, wc) m' (sf', sc')) && !(clashB m (sf, sc) l' (wf', wc')) &&
    ((decide (cl = 2) && decide (cl' = 2) && apartF n.fibers l l') || !(clashB m (sf, sc) m' (sf', sc'))))) := Lib.hid rfl
  obtain ⟨SV, hSV⟩ : ∃ SV, SV = compB n ⟨id, cl, (s, l), (wf, wc), (t, m), (sf, sc)⟩ ⟨id', cl', (s', l'), (wf', wc'), (t', m'), (sf', sc')⟩ := ⟨_, rfl⟩
  rw [← hSV] at HSV ⊢
  have a0 := r2.cell (i := 0) rfl
  have a1 := r2.cell (i := 1) rfl
  have a2 := r2.cell (i := 2) rfl
  have a3 := r2.cell (i := 3) rfl
  have a4 := r2.cell (i := 4) rfl
  have a5 := r2.cell (i := 5) rfl
  have a6 := r2.cell (i := 6) rfl
  have a7 := r2.cell (i := 7) rfl
  have a8 := r2.cell (i := 8) rfl
  have a9 := r2.cell (i := 9) rfl
  have b0 := r3.cell (i := 0) rfl
  have b1 := r3.cell (i := 1) rfl
  have b2 := r3.cell (i := 2) rfl
  have b3 := r3.cell (i := 3) rfl
  have b4 := r3.cell (i := 4) rfl
  have b5 := r3.cell (i := 5) rfl
  have b6 := r3.cell (i := 6) rfl
  have b7 := r3.cell (i := 7) rfl
  have b8 := r3.cell (i := 8) rfl
  have b9 := r3.cell (i := 9) rfl
  have n0 := r1.cell (i := 0) rfl
  have n1 := r1.cell (i := 1) rfl
  clear hSV hW3 hsz3 hf3 r1 r2 r3 hi1 hi2 hj1 hj2
  go_enter Try.func41, Try.ntmps41
  go_wp2_with fail
  rw [← HW3.out]
  refine (l13Clash_any s s' q q' cap cap' l l' wf wc wf' wc' _ HX1.out HY1.out (HI1.out.keep HB.out) (HJ1.out.keep HB.out) hn1 hm1).mono ?_
  rintro e w1 ⟨rfl, hb⟩
  replace a0 := fkeep hb a0
  replace a1 := fkeep hb a1
  replace a2 := fkeep hb a2
  replace a3 := fkeep hb a3
  replace a4 := fkeep hb a4
  replace a5 := fkeep hb a5
  replace a6 := fkeep hb a6
  replace a7 := fkeep hb a7
  replace a8 := fkeep hb a8
  replace a9 := fkeep hb a9
  replace b0 := fkeep hb b0
  replace b1 := fkeep hb b1
  replace b2 := fkeep hb b2
  replace b3 := fkeep hb b3
  replace b4 := fkeep hb b4
  replace b5 := fkeep hb b5
  replace b6 := fkeep hb b6
  replace b7 := fkeep hb b7
  replace b8 := fkeep hb b8
  replace b9 := fkeep hb b9
  replace n0 := fkeep hb n0
  replace n1 := fkeep hb n1
  replace HF := Lib.hid (fstep HF.out hb)
  replace HB := Lib.hid (fstep HB.out hb)
  clear hb
  cases h1 : clashB l (wf, wc) l' (wf', wc')
  rotate_left
  · have HE : Hid (SV = false) := by show _ = _; rw [HSV.out, h1]; simp
    clear h1
    go_wp2
    go_ret
    exact ⟨ret_bool HE.out.symm, HF.out⟩
  have H1 := Lib.hid h1
  clear h1
  go_wp2_with fail
  refine (l13Clash_any s t' q r' cap dap' l m' wf wc sf' sc' _ HX1.out HY2.out (HI1.out.keep HB.out) (HJ2.out.keep HB.out) hn1 hm2).mono ?_
  rintro e w2 ⟨rfl, hb⟩
  replace a0 := fkeep hb a0
  replace a1 := fkeep hb a1
  replace a2 := fkeep hb a2
  replace a3 := fkeep hb a3
  replace a4 := fkeep hb a4
  replace a5 := fkeep hb a5
  replace a6 := fkeep hb a6
  replace a7 := fkeep hb a7
  replace a8 := fkeep hb a8
  replace a9 := fkeep hb a9
  replace b0 := fkeep hb b0
  replace b1 := fkeep hb b1
  replace b2 := fkeep hb b2
  replace b3 := fkeep hb b3
  replace b4 := fkeep hb b4
  replace b5 := fkeep hb b5
  replace b6 := fkeep hb b6
  replace b7 := fkeep hb b7
  replace b8 := fkeep hb b8
  replace b9 := fkeep hb b9
  replace n0 := fkeep hb n0
  replace n1 := fkeep hb n1
  replace HF := Lib.hid (fstep HF.out hb)
  replace HB := Lib.hid (fstep HB.out hb)
  clear hb
  cases h2 : clashB l (wf, wc) m' (sf', sc')
  rotate_left
  · have HE : Hid (SV = false) := by show _ = _; rw [HSV.out, h2]; simp
    clear h2
    go_wp2
    go_ret
    exact ⟨ret_bool HE.out.symm, HF.out⟩
  have H2 := Lib.hid h2
  clear h2
  go_wp2_with fail
  refine (l13Clash_any t s' r q' dap cap' m l' sf sc wf' wc' _ HX2.out HY1.out (HI2.out.keep HB.out) (HJ1.out.keep HB.out) hn2 hm1).mono ?_
  rintro e w3 ⟨rfl, hb⟩
  replace a0 := fkeep hb a0
  replace a1 := fkeep hb a1
  replace a2 := fkeep hb a2
  replace a3 := fkeep hb a3
  replace a4 := fkeep hb a4
  replace a5 := fkeep hb a5
  replace a6 := fkeep hb a6
  replace a7 := fkeep hb a7
  replace a8 := fkeep hb a8
  replace a9 := fkeep hb a9
  replace b0 := fkeep hb b0
  replace b1 := fkeep hb b1
  replace b2 := fkeep hb b2
  replace b3 := fkeep hb b3
  replace b4 := fkeep hb b4
  replace b5 := fkeep hb b5
  replace b6 := fkeep hb b6
  replace b7 := fkeep hb b7
  replace b8 := fkeep hb b8
  replace b9 := fkeep hb b9
  replace n0 := fkeep hb n0
  replace n1 := fkeep hb n1
  replace HF := Lib.hid (fstep HF.out hb)
  replace HB := Lib.hid (fstep HB.out hb)
  clear hb
  cases h3 : clashB m (sf, sc) l' (wf', wc')
  rotate_left
  · have HE : Hid (SV = false) := by show _ = _; rw [HSV.out, h3]; simp
    clear h3
    go_wp2
    go_ret
    exact ⟨ret_bool HE.out.symm, HF.out⟩
  have H3 := Lib.hid h3
  clear h3
  have HS2 : Hid (SV = ((decide (cl = 2) && decide (cl' = 2) && apartF n.fibers l l') || !(clashB m (sf, sc) m' (sf', sc')))) := by show _ = _; rw [HSV.out, H1.out, H2.out, H3.out]; rfl
  clear HSV
  have HD : Hid (∀ W, Fresh w3 W → Calls Try.prog 66 #[.agg #[.int .i64 t, .slice r m.length dap], .agg #[.int .i64 sf, .int .i64 sc], .agg #[.int .i64 t', .slice r' m'.length dap'], .agg #[.int .i64 sf', .int .i64 sc']] W fun e w' => e = .returned (.bool (clashB m (sf, sc) m' (sf', sc'))) ∧ Fresh W w') := fun W hW => l13Clash_any t t' r r' dap dap' m m' sf sc sf' sc' W HX2.out HY2.out (HI2.out.keep (fstep HB.out hW)) (HJ2.out.keep (fstep HB.out hW)) hn2 hm2
  obtain ⟨D, hD⟩ : ∃ D, D = clashB m (sf, sc) m' (sf', sc') := ⟨_, rfl⟩
  rw [← hD] at HD HS2
  have HA : Hid (Calls Try.prog 65 #[.agg #[.slice q1 mm c, .slice p k d], .agg #[.int .i64 s, .slice q l.length cap], .agg #[.int .i64 s', .slice q' l'.length cap']] w3 fun e w' => e = .returned (.bool (apartF n.fibers l l')) ∧ Fresh w3 w') := l4Apart_any _ n s s' q q' cap cap' l l' w3 (HN.out.keep HF.out) h14 (HI1.out.keep HB.out) hn1 (HJ1.out.keep HB.out) hm1 HFX.out HFY.out
  obtain ⟨AP, hAP⟩ : ∃ AP, AP = apartF n.fibers l l' := ⟨_, rfl⟩
  rw [← hAP] at HA HS2
  clear hAP hD
  by_cases hca : cl = 2
  · have hca' : (cl == 2) = true := by simp [hca]
    by_cases hcb : cl' = 2
    · have hcb' : (cl' == 2) = true := by simp [hcb]
      have HS3 : Hid (SV = (AP || !D)) := by show _ = _; rw [HS2.out]; simp [hca, hcb]
      clear hca hcb HS2
      go_wp2_with fail
      refine (HA.out).mono ?_
      rintro e w4 ⟨rfl, hb⟩
      have HZ := Lib.hid hb
      replace a0 := fkeep hb a0
      replace a1 := fkeep hb a1
      replace a2 := fkeep hb a2
      replace a3 := fkeep hb a3
      replace a4 := fkeep hb a4
      replace a5 := fkeep hb a5
      replace a6 := fkeep hb a6
      replace a7 := fkeep hb a7
      replace a8 := fkeep hb a8
      replace a9 := fkeep hb a9
      replace b0 := fkeep hb b0
      replace b1 := fkeep hb b1
      replace b2 := fkeep hb b2
      replace b3 := fkeep hb b3
      replace b4 := fkeep hb b4
      replace b5 := fkeep hb b5
      replace b6 := fkeep hb b6
      replace b7 := fkeep hb b7
      replace b8 := fkeep hb b8
      replace b9 := fkeep hb b9
      replace n0 := fkeep hb n0
      replace n1 := fkeep hb n1
      replace HF := Lib.hid (fstep HF.out hb)
      replace HB := Lib.hid (fstep HB.out hb)
      clear hb
      cases AP
      · have HE : Hid (SV = !D) := by show _ = _; rw [HS3.out]; rfl
        go_wp2_with fail
        refine (HD.out _ HZ.out).mono ?_
        rintro e w5 ⟨rfl, hb⟩
        have HFE := Lib.hid (fstep HF.out hb)
        clear hb
        go_wp2
        go_ret
        exact ⟨ret_bool HE.out.symm, HFE.out⟩
      · have HE : Hid (SV = true) := by show _ = _; rw [HS3.out]; rfl
        go_wp2
        go_ret
        exact ⟨ret_bool HE.out.symm, HF.out⟩
    · have hcb' : (cl' == 2) = false := by simp [hcb]
      have HE : Hid (SV = !D) := by show _ = _; rw [HS2.out]; simp [hcb]
      clear hca hcb HS2
      go_wp2_with fail
      refine (HD.out _ (frefl _)).mono ?_
      rintro e w5 ⟨rfl, hb⟩
      have HFE := Lib.hid (fstep HF.out hb)
      clear hb
      go_wp2
      go_ret
      exact ⟨ret_bool HE.out.symm, HFE.out⟩
  · have hca' : (cl == 2) = false := by simp [hca]
    have HE : Hid (SV = !D) := by show _ = _; rw [HS2.out]; simp [hca]
    clear hca HS2
    go_wp2_with fail
    refine (HD.out _ (frefl _)).mono ?_
    rintro e w5 ⟨rfl, hb⟩
    have HFE := Lib.hid (fstep HF.out hb)
    clear hb
    go_wp2
    go_ret
    exact ⟨ret_bool HE.out.symm, HFE.out⟩
end Go.Proofs.Ytipbbfeimdobeaa
