/- Contracts: whether a service is valid, the reference's side. -/
import Derived.Test.YtipbbfeimdobeaaSv3
namespace Go.Proofs.Ytipbbfeimdobeaa
open Go.RowKit Go.PlainAid

set_option maxHeartbeats 4000000 in
set_option maxRecDepth 100000 in
theorem l13Service_any (v : Value) (n : Net) (x : LS) (w : World) (h : NetIn w v n) (hnet : netB n = true) (hI : IntsS w x) (hn : SvSm 1048576 x) :
    Calls Try.prog 40 #[v, lsV x] w fun e w' => e = .returned (.bool (svB n x.val)) ∧ Fresh w w' := by
  have h14 := netB_14 hnet
  have HNET := Lib.hid hnet
  have HRK := Lib.hid (netB_risk hnet)
  obtain ⟨id, cl, ⟨s, q, cap, l⟩, wf, wc, ⟨t, r, dap, m⟩, sf, sc⟩ := x
  obtain ⟨hi1, hi2⟩ := hI
  obtain ⟨hn1, hn2⟩ := hn
  simp only [LS.val, LR.val] at hi1 hi2 hn1 hn2 ⊢
  have HN := Lib.hid h
  obtain ⟨q1, mm, c, p, k, d, rfl⟩ := h.shape
  clear h hnet
  obtain ⟨W2, hW2, hsz2, hf2, r1, r2⟩ := two_rows w [.slice q1 mm c, .slice p k d] [.int .i64 id, .int .i64 cl, .int .i64 s, .slice q l.length cap, .int .i64 wf, .int .i64 wc, .int .i64 t, .slice r m.length dap, .int .i64 sf, .int .i64 sc] 34 58
  have HI1 := Lib.hid (hi1.keep hf2)
  have HI2 := Lib.hid (hi2.keep hf2)
  have HF2 := Lib.hid hf2
  have HW2 := Lib.hid hW2
  have HSV := Lib.hid (svB_mk n id cl s l wf wc t m sf sc)
  obtain ⟨SV, hSV⟩ : ∃ SV, SV = svB n ⟨id, cl, (s, l), (wf, wc), (t, m), (sf, sc)⟩ := ⟨_, rfl⟩
  rw [← hSV] at HSV ⊢
  have ce0 := r2.cell (i := 0) rfl
  have ce1 := r2.cell (i := 1) rfl
  have ce2 := r2.cell (i := 2) rfl
  have ce3 := r2.cell (i := 3) rfl
  have ce4 := r2.cell (i := 4) rfl
  have ce5 := r2.cell (i := 5) rfl
  have ce6 := r2.cell (i := 6) rfl
  have ce7 := r2.cell (i := 7) rfl
  have ce8 := r2.cell (i := 8) rfl
  have ce9 := r2.cell (i := 9) rfl
  have n0 := r1.cell (i := 0) rfl
  have n1 := r1.cell (i := 1) rfl
  clear hSV hW2 hsz2 hf2 r1 r2 hi1 hi2
  go_enter Try.func40, Try.ntmps40
  go_wp2_with fail
  rw [← HW2.out]
  refine (l1In_any id 1 999 _).mono ?_
  rintro e w1 ⟨rfl, rfl⟩
  cases h1 : inB id 1 999
  · have HE : Hid (SV = false) := by show _ = _; rw [HSV.out, h1]; simp
    clear h1
    go_wp2
    go_ret
    exact ⟨ret_bool HE.out.symm, HF2.out⟩
  have H1 := Lib.hid h1
  clear h1
  go_wp2_with fail
  refine (l1In_any cl 0 2 _).mono ?_
  rintro e w1 ⟨rfl, rfl⟩
  cases h2 : inB cl 0 2
  · have HE : Hid (SV = false) := by show _ = _; rw [HSV.out, h2]; simp
    clear h2
    go_wp2
    go_ret
    exact ⟨ret_bool HE.out.symm, HF2.out⟩
  have H2 := Lib.hid h2
  clear h2
  have HG1 := Lib.hid (l4Good_any _ n s q cap l W2 (HN.out.keep HF2.out) HI1.out hn1)
  rw [HNET.out, Bool.true_and] at HG1
  go_wp2_with fail
  refine (HG1.out).mono ?_
  rintro e w1 ⟨rfl, hb⟩
  have HB := Lib.hid hb
  have HF := Lib.hid (fstep HF2.out hb)
  replace ce0 := fkeep hb ce0
  replace ce1 := fkeep hb ce1
  replace ce2 := fkeep hb ce2
  replace ce3 := fkeep hb ce3
  replace ce4 := fkeep hb ce4
  replace ce5 := fkeep hb ce5
  replace ce6 := fkeep hb ce6
  replace ce7 := fkeep hb ce7
  replace ce8 := fkeep hb ce8
  replace ce9 := fkeep hb ce9
  replace n0 := fkeep hb n0
  replace n1 := fkeep hb n1
  clear hb
  cases h3 : isVis n s l
  · have HE : Hid (SV = false) := by show _ = _; rw [HSV.out, h3]; simp
    clear h3
    go_wp2
    go_ret
    exact ⟨ret_bool HE.out.symm, HF.out⟩
  have H3 := Lib.hid h3
  clear h3 HG1
  go_wp2_with fail
  refine (l8Good_any wf wc _).mono ?_
  rintro e w2 ⟨rfl, hb⟩
  replace ce0 := fkeep hb ce0
  replace ce1 := fkeep hb ce1
  replace ce2 := fkeep hb ce2
  replace ce3 := fkeep hb ce3
  replace ce4 := fkeep hb ce4
  replace ce5 := fkeep hb ce5
  replace ce6 := fkeep hb ce6
  replace ce7 := fkeep hb ce7
  replace ce8 := fkeep hb ce8
  replace ce9 := fkeep hb ce9
  replace n0 := fkeep hb n0
  replace n1 := fkeep hb n1
  replace HF := Lib.hid (fstep HF.out hb)
  replace HB := Lib.hid (fstep HB.out hb)
  clear hb
  cases h4 : goodB wf wc
  · have HE : Hid (SV = false) := by show _ = _; rw [HSV.out, h4]; simp
    clear h4
    go_wp2
    go_ret
    exact ⟨ret_bool HE.out.symm, HF.out⟩
  have H4 := Lib.hid h4
  clear h4
  by_cases hc0 : cl = 0
  · subst hc0
    have HS2 : Hid (SV = (decide (t = 0) && decide ((m.length : Int) = 0) && (decide (sf = 0) && decide (sc = 0)))) := by
      show _ = _
      have hml : decide ((m.length : Int) = 0) = decide (m.length = 0) := by rw [decide_eq_decide]; omega
      rw [HSV.out, H1.out, H2.out, H3.out, H4.out, if_pos rfl, hml]; rfl
    go_wp2
    all_goals go_ret
    all_goals exact ⟨ret_bool (by rw [HS2.out]; simp only [*, decide_true, decide_false, Bool.and_true, Bool.and_false, Bool.true_and, Bool.false_and]), HF.out⟩
  · have HS2 : Hid (SV = (isVis n t m && goodB sf sc && decide (t = s) && decide (endR n (t, m) = endR n (s, l)) && apartF n.fibers l m)) := by show _ = _; rw [HSV.out, H1.out, H2.out, H3.out, H4.out, if_neg hc0]; simp
    have hcb : (cl == 0) = false := by simp [hc0]
    clear HSV
    have HFX : Hid (∀ xa : After w2, Fresh W2 xa.w') := fun xa => fstep HB.out xa.h
    have HNX : Hid (∀ xa : After w2, NetIn xa.w' (.agg #[.slice q1 mm c, .slice p k d]) n) := fun xa => HN.out.keep (fstep HF.out xa.h)
    have HGS : Hid (∀ xa : After w2, Calls Try.prog 62 #[.agg #[.slice q1 mm c, .slice p k d], .agg #[.int .i64 t, .slice r m.length dap]] xa.w' fun e w' => e = .returned (.bool (isVis n t m)) ∧ Fresh xa.w' w') := by
      intro xa
      have := l4Good_any _ n t r dap m xa.w' (HNX.out xa) (HI2.out.keep (HFX.out xa)) hn2
      rw [HNET.out, Bool.true_and] at this
      exact this
    have HEA : Hid (∀ xa : After w2, Calls Try.prog 64 #[.agg #[.slice q1 mm c, .slice p k d], .agg #[.int .i64 s, .slice q l.length cap]] xa.w' fun e w' => e = .returned (.int .i64 (endR n (s, l))) ∧ Fresh xa.w' w') :=
      fun xa => l4End_any _ n s q cap l xa.w' (HNX.out xa) (HI1.out.keep (HFX.out xa)) hn1 H3.out
    have HEB : Hid (isVis n t m = true → ∀ xa : After w2, Calls Try.prog 64 #[.agg #[.slice q1 mm c, .slice p k d], .agg #[.int .i64 t, .slice r m.length dap]] xa.w' fun e w' => e = .returned (.int .i64 (endR n (t, m))) ∧ Fresh xa.w' w') :=
      fun hv xa => l4End_any _ n t r dap m xa.w' (HNX.out xa) (HI2.out.keep (HFX.out xa)) hn2 hv
    have HAP : Hid (isVis n t m = true → ∀ xa : After w2, Calls Try.prog 65 #[.agg #[.slice q1 mm c, .slice p k d], .agg #[.int .i64 s, .slice q l.length cap], .agg #[.int .i64 t, .slice r m.length dap]] xa.w' fun e w' => e = .returned (.bool (apartF n.fibers l m)) ∧ Fresh xa.w' w') :=
      fun hvm xa => l4Apart_any _ n s t q r cap dap l m xa.w' (HNX.out xa) h14 (HI1.out.keep (HFX.out xa)) hn1 (HI2.out.keep (HFX.out xa)) hn2 (vis_inF H3.out) (vis_inF hvm)
    obtain ⟨AP, hAP⟩ : ∃ AP, AP = apartF n.fibers l m := ⟨_, rfl⟩
    obtain ⟨E1, hE1⟩ : ∃ E, E = endR n (s, l) := ⟨_, rfl⟩
    obtain ⟨E2, hE2⟩ : ∃ E, E = endR n (t, m) := ⟨_, rfl⟩
    rw [← hAP] at HAP HS2
    rw [← hE1] at HEA HS2
    rw [← hE2] at HEB HS2
    clear hAP hE1 hE2
    have b0 := fun xa : After w2 => akeep ce0 xa
    have b1 := fun xa : After w2 => akeep ce1 xa
    have b2 := fun xa : After w2 => akeep ce2 xa
    have b3 := fun xa : After w2 => akeep ce3 xa
    have b4 := fun xa : After w2 => akeep ce4 xa
    have b5 := fun xa : After w2 => akeep ce5 xa
    have b6 := fun xa : After w2 => akeep ce6 xa
    have b7 := fun xa : After w2 => akeep ce7 xa
    have b8 := fun xa : After w2 => akeep ce8 xa
    have b9 := fun xa : After w2 => akeep ce9 xa
    have b10 := fun xa : After w2 => akeep n0 xa
    have b11 := fun xa : After w2 => akeep n1 xa
    cases h5 : isVis n t m
    · have HE : Hid (SV = false) := by show _ = _; rw [HS2.out, h5]; simp
      rw [h5] at HGS
      clear HEB HAP h5
      go_wp2
      refine wp_region_after (by kernel_rfl) (by kernel_rfl) ?_
      repeat (go_big_quiet_step ((first | (go_at_call 62; exact after_call (HGS.out _)))))
      refine wpQuiet_nil ?_
      rintro _ ⟨xa, rfl⟩
      go_wp2
      go_ret
      exact ⟨ret_bool HE.out.symm, fstep HF.out xa.h⟩
    rw [h5] at HGS
    have HEE : Hid (SV = (goodB sf sc && decide (t = s) && decide (E2 = E1) && AP)) := by show _ = _; rw [HS2.out, h5, Bool.true_and]
    replace HAP := Lib.hid (HAP.out h5)
    replace HEB := Lib.hid (HEB.out h5)
    clear h5
    cases h6 : goodB sf sc
    · have HE : Hid (SV = false) := by show _ = _; rw [HEE.out, h6]; simp
      go_wp2
      refine wp_region_after (by kernel_rfl) (by kernel_rfl) ?_
      repeat (go_big_quiet_step ((first | (go_at_call 62; exact after_call (HGS.out _)) | (go_at_call 63; exact after_call (l8Good_any _ _ _)) | (go_at_call 64; with_reducible exact after_call (HEB.out _)) | (go_at_call 64; with_reducible exact after_call (HEA.out _)) | (go_at_call 65; exact after_call (HAP.out _)))))
      refine wpQuiet_nil ?_
      rintro _ ⟨xa, rfl⟩
      go_wp2
      go_ret
      exact ⟨ret_bool HE.out.symm, fstep HF.out xa.h⟩
    by_cases hts : t = s
    · have hts' : (t == s) = true := by simp [hts]
      by_cases hen : E2 = E1
      · have hen' : (E2 == E1) = true := by simp [hen]
        have HE : Hid (SV = AP) := by show _ = _; rw [HEE.out, h6]; simp [hts, hen]
        clear hts hen
        go_wp2
        refine wp_region_after (by kernel_rfl) (by kernel_rfl) ?_
        repeat (go_big_quiet_step ((first | (go_at_call 62; exact after_call (HGS.out _)) | (go_at_call 63; exact after_call (l8Good_any _ _ _)) | (go_at_call 64; with_reducible exact after_call (HEB.out _)) | (go_at_call 64; with_reducible exact after_call (HEA.out _)) | (go_at_call 65; exact after_call (HAP.out _)))))
        refine wpQuiet_nil ?_
        rintro _ ⟨xa, rfl⟩
        go_wp2
        go_ret
        exact ⟨ret_bool HE.out.symm, fstep HF.out xa.h⟩
      · have hen' : (E2 == E1) = false := by simp [hen]
        have HE : Hid (SV = false) := by show _ = _; rw [HEE.out]; simp [hen]
        clear hts hen
        go_wp2
        refine wp_region_after (by kernel_rfl) (by kernel_rfl) ?_
        repeat (go_big_quiet_step ((first | (go_at_call 62; exact after_call (HGS.out _)) | (go_at_call 63; exact after_call (l8Good_any _ _ _)) | (go_at_call 64; with_reducible exact after_call (HEB.out _)) | (go_at_call 64; with_reducible exact after_call (HEA.out _)) | (go_at_call 65; exact after_call (HAP.out _)))))
        refine wpQuiet_nil ?_
        rintro _ ⟨xa, rfl⟩
        go_wp2
        go_ret
        exact ⟨ret_bool HE.out.symm, fstep HF.out xa.h⟩
    · have hts' : (t == s) = false := by simp [hts]
      have HE : Hid (SV = false) := by show _ = _; rw [HEE.out]; simp [hts]
      clear hts
      go_wp2
      refine wp_region_after (by kernel_rfl) (by kernel_rfl) ?_
      repeat (go_big_quiet_step ((first | (go_at_call 62; exact after_call (HGS.out _)) | (go_at_call 63; exact after_call (l8Good_any _ _ _)) | (go_at_call 64; with_reducible exact after_call (HEB.out _)) | (go_at_call 64; with_reducible exact after_call (HEA.out _)) | (go_at_call 65; exact after_call (HAP.out _)))))
      refine wpQuiet_nil ?_
      rintro _ ⟨xa, rfl⟩
      go_wp2
      go_ret
      exact ⟨ret_bool HE.out.symm, fstep HF.out xa.h⟩
end Go.Proofs.Ytipbbfeimdobeaa
