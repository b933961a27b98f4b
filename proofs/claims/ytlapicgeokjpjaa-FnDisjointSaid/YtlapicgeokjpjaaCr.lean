/- Contracts: two routes are disjoint, the reference's side; the common risks of two routes, the program's side. -/
import Derived.Test.YtlapicgeokjpjaaAd
import Derived.Test.YtlapicgeokjpjaaBp4
import Derived.Test.YtlapicgeokjpjaaPo
import Derived.Test.YtlapicgeokjpjaaDj2
import Derived.Deep.DeepCutAuto
namespace Go.Proofs.Ytlapicgeokjpjaa
open Go.RowKit Go.PlainAid

set_option maxHeartbeats 4000000 in
set_option maxRecDepth 20000 in
theorem areDisjoint_any (v : Value) (n : Net) (v2 v3 : Value) (A B : Int × List Int) (k : Int) (w : World) (h : NetIn w v n) (h2 : RtIn w v2 A) (h3 : RtIn w v3 B) :
    Calls Try.prog 6 #[v, v2, v3, .int .i64 k] w fun e w' => e = .returned (.tuple #[.bool (adF n A B k).1, .bool (adF n A B k).2]) ∧ Fresh w w' := by
  have HN := Lib.hid h
  have HA := Lib.hid h2
  have HB := Lib.hid h3
  obtain ⟨s, q, cap, a, rfl, ha, hl, rfl⟩ := h2
  obtain ⟨s', q', cap', b, rfl, hb, hl', rfl⟩ := h3
  obtain ⟨qn, cn, pn, cp, rfl, _, _, n1, _, _, _, _⟩ := h
  obtain ⟨W3, hW3, hsz3, hf3, r1, r2, r3⟩ := three_rows w [.slice qn n.nodes.length cn, .slice pn n.fibers.length cp] [.int .i64 s, .slice q a.length cap] [.int .i64 s', .slice q' b.length cap'] 27 30 30
  have HIA := Lib.hid (ha.keep hf3)
  have HIB := Lib.hid (hb.keep hf3)
  have HF3 := Lib.hid hf3
  have HW3 := Lib.hid hW3
  have HR1 := Lib.hid r1
  have HR2 := Lib.hid r2
  have HR3 := Lib.hid r3
  have HN3 := Lib.hid (HN.out.keep hf3)
  have c0 := fun xa : After W3 => akeep (r1.cell (i := 0) rfl) xa
  have c1 := fun xa : After W3 => akeep (r1.cell (i := 1) rfl) xa
  have d0 := fun xa : After W3 => akeep (r2.cell (i := 0) rfl) xa
  have d1 := fun xa : After W3 => akeep (r2.cell (i := 1) rfl) xa
  have e0 := fun xa : After W3 => akeep (r3.cell (i := 0) rfl) xa
  have e1 := fun xa : After W3 => akeep (r3.cell (i := 1) rfl) xa
  obtain ⟨cr, hcr⟩ : ∃ cr, cr = crB n (s, a) (s', b) := ⟨_, rfl⟩
  obtain ⟨kb, hkb⟩ : ∃ kb, kb = kindB k := ⟨_, rfl⟩
  obtain ⟨ea, hea⟩ : ∃ ea, ea = endW n (s, a) := ⟨_, rfl⟩
  obtain ⟨eb, heb⟩ : ∃ eb, eb = endW n (s', b) := ⟨_, rfl⟩
  have HCR : Hid (∀ xa : After W3, Calls Try.prog 18 #[.agg #[.slice qn n.nodes.length cn, .slice pn n.fibers.length cp], .agg #[.int .i64 s, .slice q a.length cap], .agg #[.int .i64 s', .slice q' b.length cap']] xa.w' fun e w' => e = .returned (.bool cr) ∧ Fresh xa.w' w') := fun xa => by
    rw [hcr]; exact areRoutes_any _ n _ _ (s, a) (s', b) xa.w' (HN3.out.keep xa.h) (HA.out.keep (fstep hf3 xa.h)) (HB.out.keep (fstep hf3 xa.h))
  have HKB : Hid (∀ W, Calls Try.prog 19 #[.int .i64 k] W fun e w' => e = .returned (.bool kb) ∧ Fresh W w') := fun W => by
    rw [hkb]; exact (isKind_any k W).mono fun e w' ⟨h1, h2⟩ => ⟨h1, by rw [← h2]; exact frefl _⟩
  have HCRE := Lib.hid hcr
  have HKBE := Lib.hid hkb
  have HEA := Lib.hid hea
  have HEB := Lib.hid heb
  have HAD : Hid ((cr && kb && decide (s = s') && decide (ea = eb)) = (adB n (s, a) (s', b) && kindB k)) := by
    show _ = _
    rw [hcr, hkb, hea, heb]
    unfold adB crB
    cases netB n && (isVis n s a && isVis n s' b) <;> cases kindB k <;> cases decide (s = s') <;> cases decide (endW n (s, a) = endW n (s', b)) <;> rfl
  clear hcr hkb hea heb ha hb hf3 hW3 hsz3
  obtain ⟨ok, hok⟩ : ∃ ok, ok = (adB n (s, a) (s', b) && kindB k) := ⟨_, rfl⟩
  have HOK := Lib.hid hok
  clear hok
  go_enter Try.func6, Try.ntmps6
  go_upto_region 1 with fail
  rw [← HW3.out]
  go_cut [35] (fun s35 wx => s35 = .bool (!ok) ∧ Fresh W3 wx)
  case first =>
    cases cr with
    | false =>
      have HV : Hid (ok = false) := by show _ = _; rw [HOK.out, ← HAD.out]; rfl
      refine wp_region_after (by kernel_rfl) (by kernel_rfl) ?_
      repeat (go_big_quiet_step ((go_at_call 18; exact after_call (HCR.out _))))
      refine wpQuiet_nil ?_
      rintro _ ⟨xa, rfl⟩
      go_wp2_with fail
      go_meet
      case rel => exact ⟨by rw [HV.out]; rfl, xa.h⟩
    | true =>
      cases kb with
      | false =>
        have HV : Hid (ok = false) := by show _ = _; rw [HOK.out, ← HAD.out]; rfl
        refine wp_region_after (by kernel_rfl) (by kernel_rfl) ?_
        repeat (go_big_quiet_step ((first | (go_at_call 18; exact after_call (HCR.out _)) | (go_at_call 19; exact after_call (HKB.out _)))))
        refine wpQuiet_nil ?_
        rintro _ ⟨xa, rfl⟩
        go_wp2_with fail
        go_meet
        case rel => exact ⟨by rw [HV.out]; rfl, xa.h⟩
      | true =>
        by_cases hs : s = s'
        · have hsb : (s == s') = true := by simp [hs]
          have hsb2 : (s != s') = false := by simp [hs]
          have hsb3 : (!(s == s')) = false := by simp [hs]
          have hcr := HCRE.out
          unfold crB at hcr
          have hcr2 := hcr.symm
          rw [Bool.and_eq_true, Bool.and_eq_true] at hcr2
          have HEC : Hid (∀ xa : After W3, Calls Try.prog 20 #[.agg #[.slice qn n.nodes.length cn, .slice pn n.fibers.length cp], .agg #[.int .i64 s, .slice q a.length cap]] xa.w' fun e w' => e = .returned (.int .i64 ea) ∧ Fresh xa.w' w') := fun xa => by
            rw [HEA.out]; exact endOf_any _ n s q cap a xa.w' (HN3.out.keep xa.h) (HIA.out.keep xa.h) hl hcr2.2.1
          have HED : Hid (∀ xa : After W3, Calls Try.prog 20 #[.agg #[.slice qn n.nodes.length cn, .slice pn n.fibers.length cp], .agg #[.int .i64 s', .slice q' b.length cap']] xa.w' fun e w' => e = .returned (.int .i64 eb) ∧ Fresh xa.w' w') := fun xa => by
            rw [HEB.out]; exact endOf_any _ n s' q' cap' b xa.w' (HN3.out.keep xa.h) (HIB.out.keep xa.h) hl' hcr2.2.2
          have HSS := Lib.hid hs
          have HV : Hid (ok = (ea == eb)) := by show _ = _; rw [HOK.out, ← HAD.out, hs]; simp [BEq.beq]
          clear hcr hcr2 hs
          refine wp_region_after (by kernel_rfl) (by kernel_rfl) ?_
          repeat (go_big_quiet_step ((first | (go_at_call 18; exact after_call (HCR.out _)) | (go_at_call 19; exact after_call (HKB.out _)) | (go_at_call 20; first | (with_reducible exact after_call (HEC.out _)) | (with_reducible exact after_call (HED.out _))))))
          refine wpQuiet_nil ?_
          rintro _ ⟨xa, rfl⟩
          go_wp2_with fail
          go_meet
          case rel => exact ⟨by rw [HV.out]; rfl, xa.h⟩
        · have hsb : (s == s') = false := by simp [hs]
          have hsb2 : (s != s') = true := by simp [hs]
          have hsb3 : (!(s == s')) = true := by simp [hs]
          have HV : Hid (ok = false) := by show _ = _; rw [HOK.out, ← HAD.out]; simp [hs]
          clear hs
          refine wp_region_after (by kernel_rfl) (by kernel_rfl) ?_
          repeat (go_big_quiet_step ((first | (go_at_call 18; exact after_call (HCR.out _)) | (go_at_call 19; exact after_call (HKB.out _)))))
          refine wpQuiet_nil ?_
          rintro _ ⟨xa, rfl⟩
          go_wp2_with fail
          go_meet
          case rel => exact ⟨by rw [HV.out]; rfl, xa.h⟩
  case rest =>
    obtain ⟨rfl, hf4⟩ := hcut
    cases ok with
    | false =>
      have HE : Hid (adF n (s, a) (s', b) k = (false, false)) := by show _ = _; unfold adF; rw [← HOK.out]; rfl
      clear c0 c1 d0 d1 e0 e1
      go_wp2
      go_ret2
      exact ⟨by rw [HE.out]; rfl, fstep HF3.out hf4⟩
    | true =>
      have hok := HOK.out.symm
      rw [Bool.and_eq_true] at hok
      obtain ⟨g1, g2, g3, g4, g5⟩ := adB_good hok.1
      simp only at g2 g3 g4 g5
      subst g5
      have hkd : 1 ≤ k ∧ k ≤ 3 := by have := hok.2; unfold kindB inB at this; simpa using this
      have HE : Hid (adF n (s, a) (s, b) k = (disjB n s a b k, true)) := by show _ = _; unfold adF; rw [← HOK.out]; rfl
      have HDJ : Hid (∀ W, Fresh W3 W → Calls Try.prog 21 #[.agg #[.slice qn n.nodes.length cn, .slice pn n.fibers.length cp], .agg #[.int .i64 s, .slice q a.length cap], .agg #[.int .i64 s, .slice q' b.length cap'], .int .i64 k] W fun e w' => e = .returned (.bool (disjB n s a b k)) ∧ Fresh W w') := fun W hW =>
        disjoint_any _ n s (endW n (s, a)) q q' cap cap' a b k W (HN3.out.keep hW) g1 g2 hkd g3 g4 (HIA.out.keep hW) (HIB.out.keep hW)
      have z0 := fkeep hf4 (HR1.out.cell (i := 0) rfl)
      have z1 := fkeep hf4 (HR1.out.cell (i := 1) rfl)
      have z2 := fkeep hf4 (HR2.out.cell (i := 0) rfl)
      have z3 := fkeep hf4 (HR2.out.cell (i := 1) rfl)
      have z4 := fkeep hf4 (HR3.out.cell (i := 0) rfl)
      have z5 := fkeep hf4 (HR3.out.cell (i := 1) rfl)
      clear c0 c1 d0 d1 e0 e1 hok g1 g2 g3 g4 hkd
      go_wp2_with fail
      refine (HDJ.out _ hf4).mono ?_
      rintro e w5 ⟨rfl, hf5⟩
      go_wp2
      go_ret2
      exact ⟨by rw [HE.out]; rfl, fstep HF3.out (fstep hf4 hf5)⟩
set_option maxHeartbeats 4000000 in
set_option maxRecDepth 20000 in
theorem specAreDisjoint_any (v : Value) (n : Net) (v2 v3 : Value) (A B : Int × List Int) (k : Int) (w : World) (h : NetIn w v n) (h2 : RtIn w v2 A) (h3 : RtIn w v3 B) :
    Calls Try.prog 7 #[v, v2, v3, .int .i64 k] w fun e w' => e = .returned (.tuple #[.bool (adF n A B k).1, .bool (adF n A B k).2]) ∧ Fresh w w' := by
  have HN := Lib.hid h
  have HA := Lib.hid h2
  have HB := Lib.hid h3
  obtain ⟨s, q, cap, a, rfl, ha, hl, rfl⟩ := h2
  obtain ⟨s', q', cap', b, rfl, hb, hl', rfl⟩ := h3
  obtain ⟨qn, cn, pn, cp, rfl, _, _, n1, _, _, _, _⟩ := h
  obtain ⟨W3, hW3, hsz3, hf3, r1, r2, r3⟩ := three_rows w [.slice qn n.nodes.length cn, .slice pn n.fibers.length cp] [.int .i64 s, .slice q a.length cap] [.int .i64 s', .slice q' b.length cap'] 27 30 30
  have HIA := Lib.hid (ha.keep hf3)
  have HIB := Lib.hid (hb.keep hf3)
  have HF3 := Lib.hid hf3
  have HW3 := Lib.hid hW3
  have HR1 := Lib.hid r1
  have HR2 := Lib.hid r2
  have HR3 := Lib.hid r3
  have HN3 := Lib.hid (HN.out.keep hf3)
  have c0 := fun xa : After W3 => akeep (r1.cell (i := 0) rfl) xa
  have c1 := fun xa : After W3 => akeep (r1.cell (i := 1) rfl) xa
  have d0 := fun xa : After W3 => akeep (r2.cell (i := 0) rfl) xa
  have d1 := fun xa : After W3 => akeep (r2.cell (i := 1) rfl) xa
  have e0 := fun xa : After W3 => akeep (r3.cell (i := 0) rfl) xa
  have e1 := fun xa : After W3 => akeep (r3.cell (i := 1) rfl) xa
  obtain ⟨ga, hga⟩ : ∃ g, g = (netB n && isVis n s a) := ⟨_, rfl⟩
  obtain ⟨gb, hgb⟩ : ∃ g, g = (netB n && isVis n s' b) := ⟨_, rfl⟩
  obtain ⟨kb, hkb⟩ : ∃ kb, kb = kindB k := ⟨_, rfl⟩
  obtain ⟨ea, hea⟩ : ∃ ea, ea = endW n (s, a) := ⟨_, rfl⟩
  obtain ⟨eb, heb⟩ : ∃ eb, eb = endW n (s', b) := ⟨_, rfl⟩
  have HGA : Hid (∀ xa : After W3, Calls Try.prog 12 #[.agg #[.slice qn n.nodes.length cn, .slice pn n.fibers.length cp], .agg #[.int .i64 s, .slice q a.length cap]] xa.w' fun e w' => e = .returned (.bool ga) ∧ Fresh xa.w' w') := fun xa => by
    rw [hga]; exact l4Good_any _ n s q cap a xa.w' (HN3.out.keep xa.h) (HIA.out.keep xa.h) hl
  have HGB : Hid (∀ xa : After W3, Calls Try.prog 12 #[.agg #[.slice qn n.nodes.length cn, .slice pn n.fibers.length cp], .agg #[.int .i64 s', .slice q' b.length cap']] xa.w' fun e w' => e = .returned (.bool gb) ∧ Fresh xa.w' w') := fun xa => by
    rw [hgb]; exact l4Good_any _ n s' q' cap' b xa.w' (HN3.out.keep xa.h) (HIB.out.keep xa.h) hl'
  have HKB : Hid (∀ W, Calls Try.prog 22 #[.int .i64 k] W fun e w' => e = .returned (.bool kb) ∧ Fresh W w') := fun W => by
    rw [hkb]; exact (l7Kind_any k W).mono fun e w' ⟨h1, h2⟩ => ⟨h1, by rw [← h2]; exact frefl _⟩
  have HGAE := Lib.hid hga
  have HGBE := Lib.hid hgb
  have HKBE := Lib.hid hkb
  have HEA := Lib.hid hea
  have HEB := Lib.hid heb
  have HAD : Hid ((ga && gb && kb && decide (s = s') && decide (ea = eb)) = (adB n (s, a) (s', b) && kindB k)) := by
    show _ = _
    rw [hga, hgb, hkb, hea, heb]
    unfold adB
    cases netB n <;> cases isVis n s a <;> cases isVis n s' b <;> cases kindB k <;> cases decide (s = s') <;> cases decide (endW n (s, a) = endW n (s', b)) <;> rfl
  clear hga hgb hkb hea heb ha hb hf3 hW3 hsz3
  obtain ⟨ok, hok⟩ : ∃ ok, ok = (adB n (s, a) (s', b) && kindB k) := ⟨_, rfl⟩
  have HOK := Lib.hid hok
  clear hok
  go_enter Try.func7, Try.ntmps7
  go_upto_region 1 with fail
  rw [← HW3.out]
  go_cut [40] (fun s40 wx => s40 = .bool (!ok) ∧ Fresh W3 wx)
  case first =>
    cases hga2 : ga with
    | false =>
      have HV : Hid (ok = false) := by show _ = _; rw [HOK.out, ← HAD.out, hga2]; rfl
      rw [hga2] at HGA
      refine wp_region_after (by kernel_rfl) (by kernel_rfl) ?_
      repeat (go_big_quiet_step ((go_at_call 12; exact after_call (HGA.out _))))
      refine wpQuiet_nil ?_
      rintro _ ⟨xa, rfl⟩
      go_wp2_with fail
      go_meet
      case rel => exact ⟨by rw [HV.out]; rfl, xa.h⟩
    | true =>
      rw [hga2] at HGA
      cases hgb2 : gb with
      | false =>
        have HV : Hid (ok = false) := by show _ = _; rw [HOK.out, ← HAD.out, hga2, hgb2]; rfl
        rw [hgb2] at HGB
        refine wp_region_after (by kernel_rfl) (by kernel_rfl) ?_
        repeat (go_big_quiet_step ((go_at_call 12; first | (with_reducible exact after_call (HGA.out _)) | (with_reducible exact after_call (HGB.out _)))))
        refine wpQuiet_nil ?_
        rintro _ ⟨xa, rfl⟩
        go_wp2_with fail
        go_meet
        case rel => exact ⟨by rw [HV.out]; rfl, xa.h⟩
      | true =>
        rw [hgb2] at HGB
        have HAE : Hid (netB n = true ∧ isVis n s a = true ∧ isVis n s' b = true) := by
          have h1 := HGAE.out; have h2 := HGBE.out
          rw [hga2] at h1; rw [hgb2] at h2
          have h1' := h1.symm; have h2' := h2.symm
          rw [Bool.and_eq_true] at h1' h2'
          exact ⟨h1'.1, h1'.2, h2'.2⟩
        have HAD2 : Hid ((kb && decide (s = s') && decide (ea = eb)) = (adB n (s, a) (s', b) && kindB k)) := by
          show _ = _; rw [← HAD.out, hga2, hgb2]; cases kb <;> rfl
        clear hga2 hgb2 HGAE HGBE
        cases kb with
        | false =>
          have HV : Hid (ok = false) := by show _ = _; rw [HOK.out, ← HAD2.out]; rfl
          refine wp_region_after (by kernel_rfl) (by kernel_rfl) ?_
          repeat (go_big_quiet_step ((first | (go_at_call 12; first | (with_reducible exact after_call (HGA.out _)) | (with_reducible exact after_call (HGB.out _))) | (go_at_call 22; exact after_call (HKB.out _)))))
          refine wpQuiet_nil ?_
          rintro _ ⟨xa, rfl⟩
          go_wp2_with fail
          go_meet
          case rel => exact ⟨by rw [HV.out]; rfl, xa.h⟩
        | true =>
          by_cases hs : s = s'
          · have hsb : (s == s') = true := by simp [hs]
            have hsb2 : (s != s') = false := by simp [hs]
            have hsb3 : (!(s == s')) = false := by simp [hs]
            have HEC : Hid (∀ xa : After W3, Calls Try.prog 15 #[.agg #[.slice qn n.nodes.length cn, .slice pn n.fibers.length cp], .agg #[.int .i64 s, .slice q a.length cap]] xa.w' fun e w' => e = .returned (.int .i64 ea) ∧ Fresh xa.w' w') := fun xa => by
              rw [HEA.out]; exact l4End_any _ n s q cap a xa.w' (HN3.out.keep xa.h) HAE.out.1 (HIA.out.keep xa.h) HAE.out.2.1
            have HED : Hid (∀ xa : After W3, Calls Try.prog 15 #[.agg #[.slice qn n.nodes.length cn, .slice pn n.fibers.length cp], .agg #[.int .i64 s', .slice q' b.length cap']] xa.w' fun e w' => e = .returned (.int .i64 eb) ∧ Fresh xa.w' w') := fun xa => by
              rw [HEB.out]; exact l4End_any _ n s' q' cap' b xa.w' (HN3.out.keep xa.h) HAE.out.1 (HIB.out.keep xa.h) HAE.out.2.2
            have HSS := Lib.hid hs
            have HV : Hid (ok = (ea == eb)) := by show _ = _; rw [HOK.out, ← HAD2.out, hs]; simp [BEq.beq]
            clear hs
            refine wp_region_after (by kernel_rfl) (by kernel_rfl) ?_
            repeat (go_big_quiet_step ((first | (go_at_call 12; first | (with_reducible exact after_call (HGA.out _)) | (with_reducible exact after_call (HGB.out _))) | (go_at_call 22; exact after_call (HKB.out _)) | (go_at_call 15; first | (with_reducible exact after_call (HEC.out _)) | (with_reducible exact after_call (HED.out _))))))
            refine wpQuiet_nil ?_
            rintro _ ⟨xa, rfl⟩
            go_wp2_with fail
            go_meet
            case rel => exact ⟨by rw [HV.out]; rfl, xa.h⟩
          · have hsb : (s == s') = false := by simp [hs]
            have hsb2 : (s != s') = true := by simp [hs]
            have hsb3 : (!(s == s')) = true := by simp [hs]
            have HV : Hid (ok = false) := by show _ = _; rw [HOK.out, ← HAD2.out]; simp [hs]
            clear hs
            refine wp_region_after (by kernel_rfl) (by kernel_rfl) ?_
            repeat (go_big_quiet_step ((first | (go_at_call 12; first | (with_reducible exact after_call (HGA.out _)) | (with_reducible exact after_call (HGB.out _))) | (go_at_call 22; exact after_call (HKB.out _)))))
            refine wpQuiet_nil ?_
            rintro _ ⟨xa, rfl⟩
            go_wp2_with fail
            go_meet
            case rel => exact ⟨by rw [HV.out]; rfl, xa.h⟩
  case rest =>
    obtain ⟨rfl, hf4⟩ := hcut
    cases ok with
    | false =>
      have HE : Hid (adF n (s, a) (s', b) k = (false, false)) := by show _ = _; unfold adF; rw [← HOK.out]; rfl
      clear c0 c1 d0 d1 e0 e1
      go_wp2
      go_ret2
      exact ⟨by rw [HE.out]; rfl, fstep HF3.out hf4⟩
    | true =>
      have hok := HOK.out.symm
      rw [Bool.and_eq_true] at hok
      obtain ⟨g1, g2, g3, g4, g5⟩ := adB_good hok.1
      simp only at g2 g3 g4 g5
      subst g5
      have hkd : 1 ≤ k ∧ k ≤ 3 := by have := hok.2; unfold kindB inB at this; simpa using this
      have HE : Hid (adF n (s, a) (s, b) k = (disjB n s a b k, true)) := by show _ = _; unfold adF; rw [← HOK.out]; rfl
      have HDJ : Hid (∀ W, Fresh W3 W → Calls Try.prog 23 #[.agg #[.slice qn n.nodes.length cn, .slice pn n.fibers.length cp], .agg #[.int .i64 s, .slice q a.length cap], .agg #[.int .i64 s, .slice q' b.length cap'], .int .i64 k] W fun e w' => e = .returned (.bool (disjB n s a b k)) ∧ Fresh W w') := fun W hW =>
        l7Apart_any _ n s (endW n (s, a)) q q' cap cap' a b k W (HN3.out.keep hW) g1 g2 hkd g3 g4 (HIA.out.keep hW) (HIB.out.keep hW)
      have z0 := fkeep hf4 (HR1.out.cell (i := 0) rfl)
      have z1 := fkeep hf4 (HR1.out.cell (i := 1) rfl)
      have z2 := fkeep hf4 (HR2.out.cell (i := 0) rfl)
      have z3 := fkeep hf4 (HR2.out.cell (i := 1) rfl)
      have z4 := fkeep hf4 (HR3.out.cell (i := 0) rfl)
      have z5 := fkeep hf4 (HR3.out.cell (i := 1) rfl)
      clear c0 c1 d0 d1 e0 e1 hok g1 g2 g3 g4 hkd
      go_wp2_with fail
      refine (HDJ.out _ hf4).mono ?_
      rintro e w5 ⟨rfl, hf5⟩
      go_wp2
      go_ret2
      exact ⟨by rw [HE.out]; rfl, fstep HF3.out (fstep hf4 hf5)⟩
set_option maxHeartbeats 2000000 in
set_option maxRecDepth 100000 in
theorem implCommonRisks_any (v : Value) (n : Net) (v2 v3 : Value) (A B : Int × List Int) (w : World) (h : NetIn w v n) (h2 : RtIn w v2 A) (h3 : RtIn w v3 B) :
    Calls Try.prog 8 #[v, v2, v3] w fun e w' => ∃ (p : Option Addr) (N c : Nat), e = .returned (.tuple #[.slice p N c, .bool (crB n A B)]) ∧ Fresh w w' ∧ (crB n A B = true → ((N : Int) == 0) = !usesB (A.2.map (gIdx n.fibers)) (B.2.map (gIdx n.fibers))) := by
  have HN := Lib.hid h
  have HA := Lib.hid h2
  have HB := Lib.hid h3
  obtain ⟨s, q, cap, a, rfl, ha, hl, rfl⟩ := h2
  obtain ⟨s', q', cap', b, rfl, hb, hl', rfl⟩ := h3
  obtain ⟨qn, cn, pn, cp, rfl, _, _, n1, _, _, _, _⟩ := h
  obtain ⟨W3, hW3, hsz3, hf3, r1, r2, r3⟩ := three_rows w [.slice qn n.nodes.length cn, .slice pn n.fibers.length cp] [.int .i64 s, .slice q a.length cap] [.int .i64 s', .slice q' b.length cap'] 27 30 30
  have HIA := Lib.hid (ha.keep hf3)
  have HIB := Lib.hid (hb.keep hf3)
  have HF3 := Lib.hid hf3
  have HW3 := Lib.hid hW3
  have HN3 := Lib.hid (HN.out.keep hf3)
  have HR1 := Lib.hid r1
  have HR2 := Lib.hid r2
  have HR3 := Lib.hid r3
  have c0 := r1.cell (i := 0) rfl
  have c1 := r1.cell (i := 1) rfl
  have d0 := r2.cell (i := 0) rfl
  have d1 := r2.cell (i := 1) rfl
  have e0 := r3.cell (i := 0) rfl
  have e1 := r3.cell (i := 1) rfl
  obtain ⟨cr, hcr⟩ : ∃ cr, cr = crB n (s, a) (s', b) := ⟨_, rfl⟩
  have HCR := Lib.hid (areRoutes_any _ n _ _ (s, a) (s', b) W3 HN3.out (HA.out.keep hf3) (HB.out.keep hf3))
  rw [← hcr] at HCR
  have HCRE := Lib.hid hcr
  obtain ⟨X, hX⟩ : ∃ X, X = a.map (gIdx n.fibers) := ⟨_, rfl⟩
  obtain ⟨Y, hY⟩ : ∃ Y, Y = b.map (gIdx n.fibers) := ⟨_, rfl⟩
  obtain ⟨CL, hCL⟩ : ∃ CL, CL = commonF X Y := ⟨_, rfl⟩
  have HPOS : Hid (((CL.length : Int) == 0) = !usesB X Y) := by
    show _ = _
    have := common_pos X Y
    rw [← hCL] at this
    rw [← this, Bool.eq_iff_iff]
    simp
  have HRA : Hid (n.fibers.length ≤ 14 → ∀ W, Fresh W3 W → Calls Try.prog 25 #[.agg #[.slice qn n.nodes.length cn, .slice pn n.fibers.length cp], .slice q a.length cap] W (OutInts W X)) := fun h14 W hW => by rw [hX]; exact risksOf_any _ n q cap a W (HN3.out.keep hW) h14 (HIA.out.keep hW) hl
  have HRB : Hid (n.fibers.length ≤ 14 → ∀ W, Fresh W3 W → Calls Try.prog 25 #[.agg #[.slice qn n.nodes.length cn, .slice pn n.fibers.length cp], .slice q' b.length cap'] W (OutInts W Y)) := fun h14 W hW => by rw [hY]; exact risksOf_any _ n q' cap' b W (HN3.out.keep hW) h14 (HIB.out.keep hW) hl'
  have HRC : Hid (∀ W pa pb ca cb, Ints W pa X → Ints W pb Y → Calls Try.prog 24 #[.slice pa X.length ca, .slice pb Y.length cb] W (OutInts W CL)) := fun W pa pb ca cb h1 h2 => by rw [hCL]; exact common_any pa pb ca cb X Y W h1 h2 (by rw [hX, List.length_map]; exact hl) (by rw [hY, List.length_map]; exact hl')
  simp only
  rw [← hcr, ← hX, ← hY]
  clear hcr hX hY hCL ha hb hf3 hW3 hsz3 r1 r2 r3
  go_enter Try.func8, Try.ntmps8
  go_upto_region 1 with fail
  rw [← HW3.out]
  go_wp2_with fail
  refine (HCR.out).mono ?_
  rintro e w4 ⟨rfl, hf4⟩
  have HF4 := Lib.hid hf4
  cases cr with
  | false =>
    clear c0 c1 d0 d1 e0 e1
    go_wp2
    go_ret2
    exact ⟨none, 0, 0, rfl, fstep HF3.out HF4.out, fun h => by cases h⟩
  | true =>
    have h14 : n.fibers.length ≤ 14 := by
      have := HCRE.out.symm
      unfold crB at this
      rw [Bool.and_eq_true] at this
      exact (net_at this.1).2.1
    replace HRA := Lib.hid (HRA.out h14)
    replace HRB := Lib.hid (HRB.out h14)
    replace c0 := fkeep hf4 c0
    replace c1 := fkeep hf4 c1
    replace d1 := fkeep hf4 d1
    replace e1 := fkeep hf4 e1
    clear hf4 d0 e0
    go_upto_region 3 with fail
    have tok1 : True := trivial
    have HSS : Fresh W3 w4 ∧ w4.cell? ⟨w.heap.size, 0, none⟩ = some (.slice qn n.nodes.length cn) ∧ w4.cell? ⟨w.heap.size, 1, none⟩ = some (.slice pn n.fibers.length cp) ∧ w4.cell? ⟨w.heap.size + 1, 1, none⟩ = some (.slice q a.length cap) ∧ w4.cell? ⟨w.heap.size + 1 + 1, 1, none⟩ = some (.slice q' b.length cap') := ⟨HF4.out, c0, c1, d1, e1⟩
    go_region_held3 (fun w' => Fresh W3 w' ∧ w'.cell? ⟨w.heap.size, 0, none⟩ = some (.slice qn n.nodes.length cn) ∧ w'.cell? ⟨w.heap.size, 1, none⟩ = some (.slice pn n.fibers.length cp) ∧ w'.cell? ⟨w.heap.size + 1, 1, none⟩ = some (.slice q a.length cap) ∧ w'.cell? ⟨w.heap.size + 1 + 1, 1, none⟩ = some (.slice q' b.length cap'))
      (first | assumption | exact keepc4 (by assumption) (by assumption) | exact keepc4 (by assumption) (fdrew (frefl _)) | exact keepc4 (by assumption) (frefl _))
      (first | (go_at_call 25; have _t := tok1; refine (HRA.out _ (And.left (by assumption))).mono ?_; rintro e w5 ⟨pa, ca, rfl, hy, hb2⟩; have HYA := Lib.hid hy.ints; clear hy tok1 _t) | (go_at_call 25; refine (HRB.out _ (And.left (by assumption))).mono ?_; rintro e w6 ⟨pb, cb, rfl, hy, hb3⟩; have HYB := Lib.hid hy.ints; clear hy) | (go_at_call 24; refine (HRC.out _ _ _ _ _ (HYA.out.keep hb3) HYB.out).mono ?_; rintro e w7 ⟨pc, cc, rfl, hy, hb4⟩; clear hy))
    have HF : Hid (Fresh W3 w7) := fstep (fstep (fstep (fstep HF4.out (fdrew (frefl _))) hb2) hb3) hb4
    go_wp2
    go_ret2
    exact ⟨pc, CL.length, ⟨cc, rfl⟩, fstep HF3.out HF.out, HPOS.out⟩
end Go.Proofs.Ytlapicgeokjpjaa
