/- Contracts: the program's AreDisjoint; the reference's length of a route. -/
import Derived.Test.YtlapicgeokjpjaaGreatAd
import Derived.Test.YtlapicgeokjpjaaGreatPrL
import Derived.Test.YtlapicgeokjpjaaGreatDw
import Derived.BigQuiet
import Derived.Deep.DeepCutAuto
namespace Go.Proofs.YtlapicgeokjpjaaGreat
open Go.RowKit Go.PlainAid

theorem vis_goodR {n : Net} {R : Int × List Int} (h : isVis n R.1 R.2 = true) : (0 ≤ R.1 ∧ R.1 < (n.nodes.length : Int)) ∧ RtGood n R.1 (endW n R) R.2 := by
  unfold isVis at h
  obtain ⟨out, ho⟩ := Option.isSome_iff_exists.1 h
  unfold visR at ho
  split at ho
  · next hc =>
    obtain ⟨h1, h2⟩ := hc
    unfold inB at h1; simp at h1
    refine ⟨by omega, fun e => h2 (by rw [e]; rfl), out, ho, ?_⟩
    unfold endW
    rw [ho]; rfl
  · cases ho
def rlF (n : Net) (R : Int × List Int) : Int × Bool := if netB n && isVis n R.1 R.2 then (lenR n.fibers R.2, true) else (0, false)
set_option maxHeartbeats 1000000 in
set_option maxRecDepth 20000 in
theorem routeLength_any (v : Value) (n : Net) (v2 : Value) (R : Int × List Int) (w : World) (h : NetIn w v n) (h2 : RtIn w v2 R) :
    Calls Tryz.prog 16 #[v, v2] w fun e w' => e = .returned (.tuple #[.int .i64 (rlF n R).1, .bool (rlF n R).2]) ∧ Fresh w w' := by
  have HN := Lib.hid h
  have HR := Lib.hid h2
  obtain ⟨s, q, cap, a, rfl, ha, hl, rfl⟩ := h2
  obtain ⟨qn, cn, pn, cp, rfl, _, _, n1, _, _, _, _⟩ := h
  obtain ⟨W2, hW2, hsz2, hf2, r1, r2⟩ := two_rows w [.slice qn n.nodes.length cn, .slice pn n.fibers.length cp] [.int .i64 s, .slice q a.length cap] 27 39
  have HA := Lib.hid ha
  have HW2 := Lib.hid hW2
  have HF2 := Lib.hid hf2
  have HR1 := Lib.hid r1
  have HR2 := Lib.hid r2
  have c0 := r1.cell (i := 0) rfl
  have c1 := r1.cell (i := 1) rfl
  have e0 := r2.cell (i := 0) rfl
  have e1 := r2.cell (i := 1) rfl
  have HG := Lib.hid (l4Good_any _ n s q cap a W2 (HN.out.keep hf2) (ha.keep hf2) hl)
  cases hg : netB n && isVis n s a with
  | false =>
    have HE : Hid (rlF n (s, a) = (0, false)) := by show _ = _; unfold rlF; simp only [hg]; rfl
    rw [hg] at HG
    clear hW2 hsz2 hf2 r1 r2 ha hg
    go_enter Tryz.func16, Tryz.ntmps16
    go_wp2_with fail
    rw [← HW2.out]
    refine (HG.out).mono ?_
    rintro e w3 ⟨rfl, hf3⟩
    go_wp2
    go_ret2
    exact ⟨by rw [HE.out]; rfl, fstep HF2.out hf3⟩
  | true =>
    have HE : Hid (rlF n (s, a) = (lenR n.fibers a, true)) := by show _ = _; unfold rlF; simp only [hg]; rfl
    rw [hg] at HG
    rw [Bool.and_eq_true] at hg
    have hnl := net_len hg.1
    obtain ⟨hs, hgd⟩ := vis_goodR (R := (s, a)) hg.2
    have hok := rt_ok hg.1 hs hgd
    have HL : Hid (∀ W, Fresh W2 W → Calls Tryz.prog 36 #[.agg #[.slice qn n.nodes.length cn, .slice pn n.fibers.length cp], .agg #[.int .i64 s, .slice q a.length cap]] W fun e w' => e = .returned (.int .i64 (lenR n.fibers a)) ∧ Fresh W w') := fun W hW => l4Length_any _ n s q cap a W (HN.out.keep (fstep hf2 hW)) (HA.out.keep (fstep hf2 hW)) hok hnl
    clear hW2 hsz2 hf2 r1 r2 ha hg hs hgd hok hnl
    go_enter Tryz.func16, Tryz.ntmps16
    go_wp2_with fail
    rw [← HW2.out]
    refine (HG.out).mono ?_
    rintro e w3 ⟨rfl, hf3⟩
    have d0 := fkeep hf3 c0
    have d1 := fkeep hf3 c1
    have d2 := fkeep hf3 e0
    have d3 := fkeep hf3 e1
    go_wp2_with fail
    refine (HL.out _ hf3).mono ?_
    rintro e w4 ⟨rfl, hf4⟩
    go_wp2
    go_ret2
    exact ⟨by rw [HE.out]; rfl, fstep HF2.out (fstep hf3 hf4)⟩
set_option maxHeartbeats 4000000 in
set_option maxRecDepth 20000 in
theorem areDisjoint_any (v : Value) (n : Net) (v2 v3 : Value) (A B : Int × List Int) (k : Int) (w : World) (h : NetIn w v n) (h2 : RtIn w v2 A) (h3 : RtIn w v3 B) :
    Calls Tryz.prog 15 #[v, v2, v3, .int .i64 k] w fun e w' => e = .returned (.tuple #[.bool (adF n A B k).1, .bool (adF n A B k).2]) ∧ Fresh w w' := by
  have HN := Lib.hid h
  have HA := Lib.hid h2
  have HB := Lib.hid h3
  obtain ⟨s, q, cap, a, rfl, ha, hl, rfl⟩ := h2
  obtain ⟨s', q', cap', b, rfl, hb, hl', rfl⟩ := h3
  obtain ⟨qn, cn, pn, cp, rfl, _, _, n1, _, _, _, _⟩ := h
  obtain ⟨W3, hW3, hsz3, hf3, r1, r2, r3⟩ := three_rows w [.slice qn n.nodes.length cn, .slice pn n.fibers.length cp] [.int .i64 s, .slice q a.length cap] [.int .i64 s', .slice q' b.length cap'] 27 39 39
  have HIA := Lib.hid (ha.keep hf3)
  have HIB := Lib.hid (hb.keep hf3)
  have HF3 := Lib.hid hf3
  have HW3 := Lib.hid hW3
  have HR1 := Lib.hid r1
  have HR2 := Lib.hid r2
  have HR3 := Lib.hid r3
  have HN3 := Lib.hid (HN.out.keep hf3)
  have c0 := fun xa : After W3 => akeep (r1.cell (i := 0) rfl) xa
  have c1 := fun xa : After W3 => akeep (r1.cell (i := 1) rfl) xa
  have d0 := fun xa : After W3 => akeep (r2.cell (i := 0) rfl) xa
  have d1 := fun xa : After W3 => akeep (r2.cell (i := 1) rfl) xa
  have e0 := fun xa : After W3 => akeep (r3.cell (i := 0) rfl) xa
  have e1 := fun xa : After W3 => akeep (r3.cell (i := 1) rfl) xa
  obtain ⟨cr, hcr⟩ : ∃ cr, cr = crB n (s, a) (s', b) := ⟨_, rfl⟩
  obtain ⟨kb, hkb⟩ : ∃ kb, kb = kindB k := ⟨_, rfl⟩
  obtain ⟨ea, hea⟩ : ∃ ea, ea = endW n (s, a) := ⟨_, rfl⟩
  obtain ⟨eb, heb⟩ : ∃ eb, eb = endW n (s', b) := ⟨_, rfl⟩
  have HCR : Hid (∀ xa : After W3, Calls Tryz.prog 37 #[.agg #[.slice qn n.nodes.length cn, .slice pn n.fibers.length cp], .agg #[.int .i64 s, .slice q a.length cap], .agg #[.int .i64 s', .slice q' b.length cap']] xa.w' fun e w' => e = .returned (.bool cr) ∧ Fresh xa.w' w') := fun xa => by
    rw [hcr]; exact areRoutes_any _ n _ _ (s, a) (s', b) xa.w' (HN3.out.keep xa.h) (HA.out.keep (fstep hf3 xa.h)) (HB.out.keep (fstep hf3 xa.h))
  have HKB : Hid (∀ W, Calls Tryz.prog 23 #[.int .i64 k] W fun e w' => e = .returned (.bool kb) ∧ Fresh W w') := fun W => by
    rw [hkb]; exact (isKind_any k W).mono fun e w' ⟨h1, h2⟩ => ⟨h1, by rw [← h2]; exact frefl _⟩
  have HCRE := Lib.hid hcr
  have HKBE := Lib.hid hkb
  have HEA := Lib.hid hea
  have HEB := Lib.hid heb
  have HAD : Hid ((cr && kb && decide (s = s') && decide (ea = eb)) = (adB n (s, a) (s', b) && kindB k)) := by
    show _ = _
    rw [hcr, hkb, hea, heb]
    unfold adB crB
    cases netB n && (isVis n s a && isVis n s' b) <;> cases kindB k <;> cases decide (s = s') <;> cases decide (endW n (s, a) = endW n (s', b)) <;> rfl
  clear hcr hkb hea heb ha hb hf3 hW3 hsz3
  obtain ⟨ok, hok⟩ : ∃ ok, ok = (adB n (s, a) (s', b) && kindB k) := ⟨_, rfl⟩
  have HOK := Lib.hid hok
  clear hok
  go_enter Tryz.func15, Tryz.ntmps15
  go_upto_region 1 with fail
  rw [← HW3.out]
  go_cut [35] (fun s35 wx => s35 = .bool (!ok) ∧ Fresh W3 wx)
  case first =>
    cases cr with
    | false =>
      have HV : Hid (ok = false) := by show _ = _; rw [HOK.out, ← HAD.out]; rfl
      refine wp_region_after (by kernel_rfl) (by kernel_rfl) ?_
      repeat (go_big_quiet_step ((go_at_call 37; exact after_call (HCR.out _))))
      refine wpQuiet_nil ?_
      rintro _ ⟨xa, rfl⟩
      go_wp2_with fail
      go_meet
      case rel => exact ⟨by rw [HV.out]; rfl, xa.h⟩
    | true =>
      cases kb with
      | false =>
        have HV : Hid (ok = false) := by show _ = _; rw [HOK.out, ← HAD.out]; rfl
        refine wp_region_after (by kernel_rfl) (by kernel_rfl) ?_
        repeat (go_big_quiet_step ((first | (go_at_call 37; exact after_call (HCR.out _)) | (go_at_call 23; exact after_call (HKB.out _)))))
        refine wpQuiet_nil ?_
        rintro _ ⟨xa, rfl⟩
        go_wp2_with fail
        go_meet
        case rel => exact ⟨by rw [HV.out]; rfl, xa.h⟩
      | true =>
        by_cases hs : s = s'
        · have hsb : (s == s') = true := by simp [hs]
          have hsb2 : (s != s') = false := by simp [hs]
          have hsb3 : (!(s == s')) = false := by simp [hs]
          have hcr := HCRE.out
          unfold crB at hcr
          have hcr2 := hcr.symm
          rw [Bool.and_eq_true, Bool.and_eq_true] at hcr2
          have HEC : Hid (∀ xa : After W3, Calls Tryz.prog 38 #[.agg #[.slice qn n.nodes.length cn, .slice pn n.fibers.length cp], .agg #[.int .i64 s, .slice q a.length cap]] xa.w' fun e w' => e = .returned (.int .i64 ea) ∧ Fresh xa.w' w') := fun xa => by
            rw [HEA.out]; exact endOf_any _ n s q cap a xa.w' (HN3.out.keep xa.h) (HIA.out.keep xa.h) hl hcr2.2.1
          have HED : Hid (∀ xa : After W3, Calls Tryz.prog 38 #[.agg #[.slice qn n.nodes.length cn, .slice pn n.fibers.length cp], .agg #[.int .i64 s', .slice q' b.length cap']] xa.w' fun e w' => e = .returned (.int .i64 eb) ∧ Fresh xa.w' w') := fun xa => by
            rw [HEB.out]; exact endOf_any _ n s' q' cap' b xa.w' (HN3.out.keep xa.h) (HIB.out.keep xa.h) hl' hcr2.2.2
          have HSS := Lib.hid hs
          have HV : Hid (ok = (ea == eb)) := by show _ = _; rw [HOK.out, ← HAD.out, hs]; simp [BEq.beq]
          clear hcr hcr2 hs
          refine wp_region_after (by kernel_rfl) (by kernel_rfl) ?_
          repeat (go_big_quiet_step ((first | (go_at_call 37; exact after_call (HCR.out _)) | (go_at_call 23; exact after_call (HKB.out _)) | (go_at_call 38; first | (with_reducible exact after_call (HEC.out _)) | (with_reducible exact after_call (HED.out _))))))
          refine wpQuiet_nil ?_
          rintro _ ⟨xa, rfl⟩
          go_wp2_with fail
          go_meet
          case rel => exact ⟨by rw [HV.out]; rfl, xa.h⟩
        · have hsb : (s == s') = false := by simp [hs]
          have hsb2 : (s != s') = true := by simp [hs]
          have hsb3 : (!(s == s')) = true := by simp [hs]
          have HV : Hid (ok = false) := by show _ = _; rw [HOK.out, ← HAD.out]; simp [hs]
          clear hs
          refine wp_region_after (by kernel_rfl) (by kernel_rfl) ?_
          repeat (go_big_quiet_step ((first | (go_at_call 37; exact after_call (HCR.out _)) | (go_at_call 23; exact after_call (HKB.out _)))))
          refine wpQuiet_nil ?_
          rintro _ ⟨xa, rfl⟩
          go_wp2_with fail
          go_meet
          case rel => exact ⟨by rw [HV.out]; rfl, xa.h⟩
  case rest =>
    obtain ⟨rfl, hf4⟩ := hcut
    cases ok with
    | false =>
      have HE : Hid (adF n (s, a) (s', b) k = (false, false)) := by show _ = _; unfold adF; rw [← HOK.out]; rfl
      clear c0 c1 d0 d1 e0 e1
      go_wp2
      go_ret2
      exact ⟨by rw [HE.out]; rfl, fstep HF3.out hf4⟩
    | true =>
      have hok := HOK.out.symm
      rw [Bool.and_eq_true] at hok
      obtain ⟨g1, g2, g3, g4, g5⟩ := adB_good hok.1
      simp only at g2 g3 g4 g5
      subst g5
      have hkd : 1 ≤ k ∧ k ≤ 3 := by have := hok.2; unfold kindB inB at this; simpa using this
      have HE : Hid (adF n (s, a) (s, b) k = (disjB n s a b k, true)) := by show _ = _; unfold adF; rw [← HOK.out]; rfl
      have HDJ : Hid (∀ W, Fresh W3 W → Calls Tryz.prog 39 #[.agg #[.slice qn n.nodes.length cn, .slice pn n.fibers.length cp], .agg #[.int .i64 s, .slice q a.length cap], .agg #[.int .i64 s, .slice q' b.length cap'], .int .i64 k] W fun e w' => e = .returned (.bool (disjB n s a b k)) ∧ Fresh W w') := fun W hW =>
        disjoint_any _ n s (endW n (s, a)) q q' cap cap' a b k W (HN3.out.keep hW) g1 g2 hkd g3 g4 (HIA.out.keep hW) (HIB.out.keep hW)
      have z0 := fkeep hf4 (HR1.out.cell (i := 0) rfl)
      have z1 := fkeep hf4 (HR1.out.cell (i := 1) rfl)
      have z2 := fkeep hf4 (HR2.out.cell (i := 0) rfl)
      have z3 := fkeep hf4 (HR2.out.cell (i := 1) rfl)
      have z4 := fkeep hf4 (HR3.out.cell (i := 0) rfl)
      have z5 := fkeep hf4 (HR3.out.cell (i := 1) rfl)
      clear c0 c1 d0 d1 e0 e1 hok g1 g2 g3 g4 hkd
      go_wp2_with fail
      refine (HDJ.out _ hf4).mono ?_
      rintro e w5 ⟨rfl, hf5⟩
      go_wp2
      go_ret2
      exact ⟨by rw [HE.out]; rfl, fstep HF3.out (fstep hf4 hf5)⟩
set_option maxHeartbeats 4000000 in
set_option maxRecDepth 20000 in
theorem rFirst_any (v : Value) (n : Net) (s t : Int) (w : World) (h : NetIn w v n) :
    Calls Tryz.prog 19 #[v, .int .i64 s, .int .i64 t] w fun e w' => ∃ v', e = .returned v' ∧ RtOwn w' w.heap.size v' (firstR n s t) ∧ Fresh w w' := by
  have HN := Lib.hid h
  obtain ⟨qn, cn, pn, cp, rfl, _, _, n1, _, _, _, _⟩ := h
  obtain ⟨W2, hW2, hsz2, hf2, r1, r2⟩ := two_rows w [.slice qn n.nodes.length cn, .slice pn n.fibers.length cp] [.int .i64 0, .slice none 0 0] 27 39
  have HSA := Lib.hid (specAllRoutes_any _ n s t W2 (HN.out.keep hf2))
  have HW2 := Lib.hid hW2
  have HF2 := Lib.hid hf2
  have HZ2 := Lib.hid r2
  have c0 := r1.cell (i := 0) rfl
  have c1 := r1.cell (i := 1) rfl
  clear hW2 hsz2 hf2 r1 r2
  go_enter Tryz.func19, Tryz.ntmps19
  go_wp2_with fail
  rw [← HW2.out]
  refine (HSA.out).mono ?_
  rintro e w3 ⟨V, l, rfl, hr3, hla, hf3⟩
  have HF3 := Lib.hid (fstep HF2.out hf3)
  have HZ3 := Lib.hid (HZ2.out.keep hf3)
  have HR3 := Lib.hid hr3
  have HLA := Lib.hid hla
  obtain ⟨ok, hok⟩ : ∃ ok, ok = okA n s t := ⟨_, rfl⟩
  rw [← hok]
  have HOK := Lib.hid hok
  obtain ⟨q, c, hv, _⟩ := owns_cap hr3.row
  subst hv
  clear hf3 hr3 hla hok HSA c0 c1
  have z0 := HZ3.out.cell (i := 0) rfl
  have z1 := HZ3.out.cell (i := 1) rfl
  have y0 := HZ3.out.frozen 0
  have y1 := HZ3.out.frozen 1
  have HZN := Lib.hid ((HZ3.out.set 0 (.int .i64 0)).set 1 (.slice none 0 0))
  have k0 := HZN.out.cell (i := 0) rfl
  have k1 := HZN.out.cell (i := 1) rfl
  have HFZ : Hid (l.length = 0 → ∀ W', Fresh w W' → RtOwn W' w.heap.size (.agg #[.int .i64 0, .slice none 0 0]) (firstR n s t)) := by
    intro h0 W' _
    have : firstR n s t = (0, []) := by
      unfold firstR
      rw [← HLA.out, List.eq_nil_of_length_eq_zero h0]; rfl
    rw [this]
    exact ⟨none, 0, rfl, Or.inl ⟨rfl, rfl⟩⟩
  have HFF := Lib.hid (fset (fset HF3.out (show w.heap.size ≤ w.heap.size + 1 by omega) (o := 0) (.int .i64 0)) (show w.heap.size ≤ w.heap.size + 1 by omega) (o := 1) (.slice none 0 0))
  cases ok with
  | false =>
    have HL0 : Hid (l.length = 0) := by
      have := HLA.out
      unfold allA at this
      rw [← HOK.out] at this
      show _ = _
      have h2 := congrArg List.length this
      simpa using h2
    go_wp2
    refine bodyPost_ret (v := .agg #[.int .i64 0, .slice none 0 0]) (by simp [results, Tryz.results19, go_sem, k0, k1]) rfl ?_
    exact ⟨_, rfl, HFZ.out HL0.out _ HFF.out, HFF.out⟩
  | true =>
    by_cases hl0 : l.length = 0
    · have hlz : ((l.length : Int) == 0) = true := by rw [beq_iff_eq]; omega
      have HL0 := Lib.hid hl0
      clear hl0
      go_wp2
      refine bodyPost_ret (v := .agg #[.int .i64 0, .slice none 0 0]) (by simp [results, Tryz.results19, go_sem, k0, k1]) rfl ?_
      exact ⟨_, rfl, HFZ.out HL0.out _ HFF.out, HFF.out⟩
    · have hlz : ((l.length : Int) == 0) = false := by rw [beq_eq_false_iff_ne]; omega
      have hlp : 0 < l.length := by omega
      obtain ⟨x, hx⟩ : ∃ x, l[0]? = some x := ⟨_, List.getElem?_eq_getElem hlp⟩
      obtain ⟨p', cap', hpc, hown, _, _⟩ := owns_cap HR3.out.row
      cases hpc
      have hlen : 0 < (l.flatMap lrC).length := by rw [flat_len lrC 2 (fun _ => rfl) l]; exact Nat.mul_pos hlp (by decide)
      obtain ⟨b, off, hq, hcc⟩ := Cells.at hown.cells hlen
      clear hlen
      have hfl : ∀ (j : Nat) (v : Value), (lrC x)[j]? = some v → (l.flatMap lrC)[j]? = some v := by
        intro j v hv
        match l, hx with
        | y :: t, hx =>
          cases hx
          rw [List.flatMap_cons, List.getElem?_append_left (List.getElem?_eq_some_iff.1 hv).1]; exact hv
      have m0 := hcc 0 _ (hfl 0 _ rfl)
      have m1 := hcc 1 _ (hfl 1 _ rfl)
      rw [Nat.add_zero] at m0
      have HFR : Hid (firstR n s t = (x.start, x.fibs)) := by
        show _ = _
        unfold firstR
        rw [← HLA.out, List.getElem?_map, hx]; rfl
      have HOX : Hid (RtOwn w3 w.heap.size (.agg #[.int .i64 x.start, .slice x.q x.fibs.length x.cap]) (x.start, x.fibs)) := by
        exact ⟨x.q, x.cap, rfl, (HR3.out.fib x (List.mem_of_getElem? hx)).mono HF2.out.size⟩
      have HXN := Lib.hid ((HZ3.out.set 0 (.int .i64 x.start)).set 1 (.slice x.q x.fibs.length x.cap))
      have x0 := HXN.out.cell (i := 0) rfl
      have x1 := HXN.out.cell (i := 1) rfl
      have HOY := Lib.hid ((HOX.out.setR HZ3.out 0 (.int .i64 x.start)).setR (HZ3.out.set 0 _) 1 (.slice x.q x.fibs.length x.cap))
      have HFX := Lib.hid (fset (fset HF3.out (show w.heap.size ≤ w.heap.size + 1 by omega) (o := 0) (.int .i64 x.start)) (show w.heap.size ≤ w.heap.size + 1 by omega) (o := 1) (.slice x.q x.fibs.length x.cap))
      subst hq
      clear hl0 hown hcc hfl hx k0 k1
      go_wp2
      refine bodyPost_ret (v := .agg #[.int .i64 x.start, .slice x.q x.fibs.length x.cap]) (by simp [results, Tryz.results19, go_sem, x0, x1]) rfl ?_
      exact ⟨_, rfl, by rw [HFR.out]; exact HOY.out, HFX.out⟩
end Go.Proofs.YtlapicgeokjpjaaGreat
