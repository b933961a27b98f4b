/- Contracts: whether a service is valid, both sides. -/
import Derived.Test.YtipbbfeimdobeaaSv2
namespace Go.Proofs.Ytipbbfeimdobeaa
open Go.RowKit Go.PlainAid

theorem netB_14 {n : Net} (h : netB n = true) : n.fibers.length ≤ 14 := by
  unfold netB at h
  simp only [Bool.and_eq_true, decide_eq_true_eq] at h
  exact h.1.1.2
theorem svB_mk (n : Net) (id cl s : Int) (l : List Int) (wf wc t : Int) (m : List Int) (sf sc : Int) : svB n ⟨id, cl, (s, l), (wf, wc), (t, m), (sf, sc)⟩ = (inB id 1 999 && inB cl 0 2 && isVis n s l && goodB wf wc &&
    (if cl = 0 then (decide (t = 0) && decide (m.length = 0) && (decide (sf = 0) && decide (sc = 0))) else isVis n t m && goodB sf sc && decide (t = s) && decide (endR n (t, m) = endR n (s, l)) && apartF n.fibers l m)) := rfl
theorem own_ends {w : World} {base : Nat} {p : Option Addr} {out : List Int} {s : Int} (h : Own w base 3 p (out.map iv)) (h0 : out[0]? = some s) (hp : 0 < out.length) :
    ∃ g, p = some ⟨g, 0, none⟩ ∧ w.cell? ⟨g, 0, none⟩ = some (.int .i64 s) ∧ w.cell? ⟨g, out.length - 1, none⟩ = some (.int .i64 (lastI out)) := by
  obtain ⟨b, off, hb, hl⟩ := last_cell h.ints hp
  rcases h with ⟨_, hc⟩ | ⟨g, sp, rfl, _, hr⟩
  · exfalso
    have := congrArg List.length hc
    simp at this
    rw [this] at hp; simp at hp
  · cases hb
    refine ⟨_, rfl, hr.cell ?_, by rw [Nat.zero_add] at hl; exact hl⟩
    rw [List.getElem?_append_left (by simpa using hp), List.getElem?_map, h0]
    rfl
theorem vis_len {n : Net} {s : Int} {l out : List Int} (h : visR n.nodes.length n.fibers s l = some out) (hn : l.length ≤ 1048576) : out.length ≤ 1048577 := by
  unfold visR at h
  split at h
  · have := walk_len (k := l.length) (F := n.fibers) (s := s) (l := l) (out := out) (Nat.le_refl _) (by rw [List.take_length]; exact h)
    omega
  · cases h
set_option maxHeartbeats 4000000 in
set_option maxRecDepth 100000 in
theorem isService_any (v : Value) (n : Net) (x : LS) (w : World) (h : NetIn w v n) (hnet : netB n = true) (hI : IntsS w x) (hn : SvSm 1048576 x) :
    Calls Try.prog 45 #[v, lsV x] w fun e w' => e = .returned (.bool (svB n x.val)) ∧ Fresh w w' := by
  have h14 := netB_14 hnet
  have HRK := Lib.hid (netB_risk hnet)
  obtain ⟨id, cl, ⟨s, q, cap, l⟩, wf, wc, ⟨t, r, dap, m⟩, sf, sc⟩ := x
  obtain ⟨hi1, hi2⟩ := hI
  obtain ⟨hn1, hn2⟩ := hn
  simp only [LS.val, LR.val] at hi1 hi2 hn1 hn2 ⊢
  have HN := Lib.hid h
  obtain ⟨q1, mm, c, p, k, d, rfl⟩ := h.shape
  clear h hnet
  obtain ⟨W2, hW2, hsz2, hf2, r1, r2⟩ := two_rows w [.slice q1 mm c, .slice p k d] [.int .i64 id, .int .i64 cl, .int .i64 s, .slice q l.length cap, .int .i64 wf, .int .i64 wc, .int .i64 t, .slice r m.length dap, .int .i64 sf, .int .i64 sc] 34 58
  have HI1 := Lib.hid (hi1.keep hf2)
  have HI2 := Lib.hid (hi2.keep hf2)
  have HF2 := Lib.hid hf2
  have HR1 := Lib.hid r1
  have HR2 := Lib.hid r2
  have HW2 := Lib.hid hW2
  have HSV := Lib.hid (svB_mk n id cl s l wf wc t m sf sc)
  obtain ⟨SV, hSV⟩ : ∃ SV, SV = svB n ⟨id, cl, (s, l), (wf, wc), (t, m), (sf, sc)⟩ := ⟨_, rfl⟩
  rw [← hSV] at HSV ⊢
  clear hSV hW2 hsz2 hf2 r1 r2 hi1 hi2
  go_enter Try.func45, Try.ntmps45
  go_wp2_with fail
  rw [← HW2.out]
  refine (visited_any _ n s q cap l W2 (HN.out.keep HF2.out) HI1.out hn1).mono ?_
  rintro e w1 ⟨po, co, xs, rfl, hb, ho⟩
  have HO := Lib.hid ho
  have HF := Lib.hid (fstep HF2.out hb)
  have HB := Lib.hid hb
  have HVI : Hid (isVis n s l = (visR n.nodes.length n.fibers s l).isSome) := Lib.hid rfl
  obtain ⟨R, hR⟩ : ∃ R, R = visR n.nodes.length n.fibers s l := ⟨_, rfl⟩
  rw [← hR] at HO HVI ⊢
  have HR := Lib.hid hR
  have ce0 := (HR2.out.keep hb).cell (i := 0) rfl
  have ce1 := (HR2.out.keep hb).cell (i := 1) rfl
  have ce2 := (HR2.out.keep hb).cell (i := 2) rfl
  have ce3 := (HR2.out.keep hb).cell (i := 3) rfl
  have ce4 := (HR2.out.keep hb).cell (i := 4) rfl
  have ce5 := (HR2.out.keep hb).cell (i := 5) rfl
  have ce6 := (HR2.out.keep hb).cell (i := 6) rfl
  have ce7 := (HR2.out.keep hb).cell (i := 7) rfl
  have ce8 := (HR2.out.keep hb).cell (i := 8) rfl
  have ce9 := (HR2.out.keep hb).cell (i := 9) rfl
  have n0 := (HR1.out.keep hb).cell (i := 0) rfl
  have n1 := (HR1.out.keep hb).cell (i := 1) rfl
  clear ho hb hR
  go_wp2_with fail
  refine (within_any id 1 999 _).mono ?_
  rintro e w2 ⟨rfl, rfl⟩
  cases h1 : inB id 1 999
  · have HE : Hid (SV = false) := by show _ = _; rw [HSV.out, h1]; simp
    clear h1
    go_wp2
    go_ret
    exact ⟨ret_bool HE.out.symm, HF.out⟩
  have H1 := Lib.hid h1
  clear h1
  go_wp2_with fail
  refine (within_any cl 0 2 _).mono ?_
  rintro e w2 ⟨rfl, rfl⟩
  cases h2 : inB cl 0 2
  · have HE : Hid (SV = false) := by show _ = _; rw [HSV.out, h2]; simp
    clear h2
    go_wp2
    go_ret
    exact ⟨ret_bool HE.out.symm, HF.out⟩
  have H2 := Lib.hid h2
  clear h2
  cases R with
  | none =>
    have HE : Hid (SV = false) := by show _ = _; rw [HSV.out, HVI.out]; simp
    simp only [Option.isSome_none]
    go_wp2
    go_ret
    exact ⟨ret_bool HE.out.symm, HF.out⟩
  | some out1 =>
  have H3 : Hid (isVis n s l = true) := by show _ = _; rw [HVI.out]; rfl
  obtain ⟨rfl, ho1⟩ := HO.out out1 rfl
  obtain ⟨hd1, hp1, he1⟩ := vis_head HR.out.symm
  have hlen1 := vis_len HR.out.symm hn1
  obtain ⟨g1, rfl, f1, l1⟩ := own_ends ho1 hd1 hp1
  have HE1 := Lib.hid he1
  simp only [Option.isSome_some]
  clear ho1 hd1 he1 HO HVI
  go_wp2_with fail
  refine (implIsValidBlock_any wf wc _).mono ?_
  rintro e w2 ⟨rfl, hb⟩
  replace ce0 := fkeep hb ce0
  replace ce1 := fkeep hb ce1
  replace ce2 := fkeep hb ce2
  replace ce3 := fkeep hb ce3
  replace ce4 := fkeep hb ce4
  replace ce5 := fkeep hb ce5
  replace ce6 := fkeep hb ce6
  replace ce7 := fkeep hb ce7
  replace ce8 := fkeep hb ce8
  replace ce9 := fkeep hb ce9
  replace n0 := fkeep hb n0
  replace n1 := fkeep hb n1
  replace f1 := fkeep hb f1
  replace l1 := fkeep hb l1
  replace HF := Lib.hid (fstep HF.out hb)
  replace HB := Lib.hid (fstep HB.out hb)
  clear hb
  cases h4 : goodB wf wc
  · have HE : Hid (SV = false) := by show _ = _; rw [HSV.out, h4]; simp
    clear h4
    go_wp2
    go_ret
    exact ⟨ret_bool HE.out.symm, HF.out⟩
  have H4 := Lib.hid h4
  clear h4
  by_cases hc0 : cl = 0
  · subst hc0
    have HS2 : Hid (SV = (decide (t = 0) && decide ((m.length : Int) = 0) && (decide (sf = 0) && decide (sc = 0)))) := by
      show _ = _
      have hml : decide ((m.length : Int) = 0) = decide (m.length = 0) := by rw [decide_eq_decide]; omega
      rw [HSV.out, H1.out, H2.out, H3.out, H4.out, if_pos rfl, hml]; rfl
    go_wp2
    all_goals go_ret
    all_goals exact ⟨ret_bool (by rw [HS2.out]; simp only [*, decide_true, decide_false, Bool.and_true, Bool.and_false, Bool.true_and, Bool.false_and]), HF.out⟩
  · have HS2 : Hid (SV = (isVis n t m && goodB sf sc && decide (t = s) && decide (endR n (t, m) = endR n (s, l)) && apartF n.fibers l m)) := by show _ = _; rw [HSV.out, H1.out, H2.out, H3.out, H4.out, if_neg hc0]; simp
    have hcb : (cl == 0) = false := by simp [hc0]
    clear HSV
    go_wp2_with fail
    refine (visited_any _ n t r dap m w2 (HN.out.keep HF.out) (HI2.out.keep HB.out) hn2).mono ?_
    rintro e w3 ⟨p2, c2, xs2, rfl, hb, ho⟩
    have HO2 := Lib.hid ho
    replace ce0 := fkeep hb ce0
    replace ce1 := fkeep hb ce1
    replace ce2 := fkeep hb ce2
    replace ce3 := fkeep hb ce3
    replace ce4 := fkeep hb ce4
    replace ce5 := fkeep hb ce5
    replace ce6 := fkeep hb ce6
    replace ce7 := fkeep hb ce7
    replace ce8 := fkeep hb ce8
    replace ce9 := fkeep hb ce9
    replace n0 := fkeep hb n0
    replace n1 := fkeep hb n1
    replace f1 := fkeep hb f1
    replace l1 := fkeep hb l1
    replace HF := Lib.hid (fstep HF.out hb)
    replace HB := Lib.hid (fstep HB.out hb)
    clear hb
    have HVI : Hid (isVis n t m = (visR n.nodes.length n.fibers t m).isSome) := Lib.hid rfl
    obtain ⟨R2, hR2⟩ : ∃ R, R = visR n.nodes.length n.fibers t m := ⟨_, rfl⟩
    rw [← hR2] at HO2 HVI ⊢
    have HRR := Lib.hid hR2
    clear ho hR2
    have HAP : Hid (isVis n t m = true → ∀ xa : After w3, Calls Try.prog 74 #[.agg #[.slice q1 mm c, .slice p k d], .slice q l.length cap, .slice r m.length dap] xa.w' fun e w' => e = .returned (.bool (apartF n.fibers l m)) ∧ Fresh xa.w' w') :=
      fun hvm xa => apart_any _ n q r cap dap l m xa.w' (HN.out.keep (fstep HF.out xa.h)) h14 HRK.out (HI1.out.keep (fstep HB.out xa.h)) hn1 (HI2.out.keep (fstep HB.out xa.h)) hn2 (vis_inF H3.out) (vis_inF hvm)
    obtain ⟨AP, hAP⟩ : ∃ AP, AP = apartF n.fibers l m := ⟨_, rfl⟩
    rw [← hAP] at HAP HS2
    clear hAP
    have b0 := fun xa : After w3 => akeep ce0 xa
    have b1 := fun xa : After w3 => akeep ce1 xa
    have b2 := fun xa : After w3 => akeep ce2 xa
    have b3 := fun xa : After w3 => akeep ce3 xa
    have b4 := fun xa : After w3 => akeep ce4 xa
    have b5 := fun xa : After w3 => akeep ce5 xa
    have b6 := fun xa : After w3 => akeep ce6 xa
    have b7 := fun xa : After w3 => akeep ce7 xa
    have b8 := fun xa : After w3 => akeep ce8 xa
    have b9 := fun xa : After w3 => akeep ce9 xa
    have b10 := fun xa : After w3 => akeep n0 xa
    have b11 := fun xa : After w3 => akeep n1 xa
    clear ce0 ce1 ce2 ce3 ce4 ce5 ce6 ce7 ce8 ce9 n0 n1
    cases R2 with
    | none =>
      have HE : Hid (SV = false) := by show _ = _; rw [HS2.out, HVI.out]; simp
      simp only [Option.isSome_none]
      go_wp2
      refine wp_region_after (by kernel_rfl) (by kernel_rfl) ?_
      repeat (go_big_quiet_step ((first | (go_at_call 73; exact after_call (implIsValidBlock_any _ _ _)) | (go_at_call 74; exact after_call (HAP.out _)))))
      refine wpQuiet_nil ?_
      rintro _ ⟨xa, rfl⟩
      go_wp2
      go_ret
      exact ⟨ret_bool HE.out.symm, fstep HF.out xa.h⟩
    | some out2 =>
    have H5 : Hid (isVis n t m = true) := by show _ = _; rw [HVI.out]; rfl
    obtain ⟨rfl, ho2⟩ := HO2.out out2 rfl
    obtain ⟨hd2, hp2, he2⟩ := vis_head HRR.out.symm
    have hlen2 := vis_len HRR.out.symm hn2
    obtain ⟨g2, rfl, f2, l2⟩ := own_ends ho2 hd2 hp2
    have HE2 := Lib.hid he2
    have HEE : Hid (SV = (goodB sf sc && decide (t = s) && decide (lastI xs2 = lastI xs) && AP)) := by show _ = _; rw [HS2.out, H5.out, HE1.out, HE2.out, Bool.true_and]
    simp only [Option.isSome_some]
    have a1 := fun xa : After w3 => akeep f1 xa
    have a2 := fun xa : After w3 => akeep l1 xa
    have a3 := fun xa : After w3 => akeep f2 xa
    have a4 := fun xa : After w3 => akeep l2 xa
    have z1 : (0 : Int) < (xs.length : Int) := by omega
    have z2 : (0 : Int) < (xs2.length : Int) := by omega
    have y1 : IntKind.i64.wrap ((xs.length : Int) - 1) = (xs.length : Int) - 1 := by rw [IntKind.wrap_i64]; omega
    have y2 : ((xs.length : Int) - 1).toNat = xs.length - 1 := by omega
    have y3 : 1 ≤ xs.length := hp1
    have y4 : IntKind.i64.wrap ((xs2.length : Int) - 1) = (xs2.length : Int) - 1 := by rw [IntKind.wrap_i64]; omega
    have y5 : ((xs2.length : Int) - 1).toNat = xs2.length - 1 := by omega
    have y6 : 1 ≤ xs2.length := hp2
    replace HAP := Lib.hid (HAP.out H5.out)
    clear ho2 hd2 he2 HO2 HVI f1 f2 l1 l2
    cases h6 : goodB sf sc
    · have HE : Hid (SV = false) := by show _ = _; rw [HEE.out, h6]; simp
      go_wp2
      refine wp_region_after (by kernel_rfl) (by kernel_rfl) ?_
      repeat (go_big_quiet_step ((first | (go_at_call 73; exact after_call (implIsValidBlock_any _ _ _)) | (go_at_call 74; exact after_call (HAP.out _)))))
      refine wpQuiet_nil ?_
      rintro _ ⟨xa, rfl⟩
      go_wp2
      go_ret
      exact ⟨ret_bool HE.out.symm, fstep HF.out xa.h⟩
    by_cases hts : t = s
    · have hts' : (t == s) = true := by simp [hts]
      by_cases hen : lastI xs2 = lastI xs
      · have hen' : (lastI xs2 == lastI xs) = true := by simp [hen]
        have HE : Hid (SV = AP) := by show _ = _; rw [HEE.out, h6]; simp [hts, hen]
        clear hts hen
        go_wp2
        refine wp_region_after (by kernel_rfl) (by kernel_rfl) ?_
        repeat (go_big_quiet_step ((first | (go_at_call 73; exact after_call (implIsValidBlock_any _ _ _)) | (go_at_call 74; exact after_call (HAP.out _)))))
        refine wpQuiet_nil ?_
        rintro _ ⟨xa, rfl⟩
        go_wp2
        go_ret
        exact ⟨ret_bool HE.out.symm, fstep HF.out xa.h⟩
      · have hen' : (lastI xs2 == lastI xs) = false := by simp [hen]
        have HE : Hid (SV = false) := by show _ = _; rw [HEE.out]; simp [hen]
        clear hts hen
        go_wp2
        refine wp_region_after (by kernel_rfl) (by kernel_rfl) ?_
        repeat (go_big_quiet_step ((first | (go_at_call 73; exact after_call (implIsValidBlock_any _ _ _)) | (go_at_call 74; exact after_call (HAP.out _)))))
        refine wpQuiet_nil ?_
        rintro _ ⟨xa, rfl⟩
        go_wp2
        go_ret
        exact ⟨ret_bool HE.out.symm, fstep HF.out xa.h⟩
    · have hts' : (t == s) = false := by simp [hts]
      have HE : Hid (SV = false) := by show _ = _; rw [HEE.out]; simp [hts]
      clear hts
      go_wp2
      refine wp_region_after (by kernel_rfl) (by kernel_rfl) ?_
      repeat (go_big_quiet_step ((first | (go_at_call 73; exact after_call (implIsValidBlock_any _ _ _)) | (go_at_call 74; exact after_call (HAP.out _)))))
      refine wpQuiet_nil ?_
      rintro _ ⟨xa, rfl⟩
      go_wp2
      go_ret
      exact ⟨ret_bool HE.out.symm, fstep HF.out xa.h⟩
end Go.Proofs.Ytipbbfeimdobeaa
