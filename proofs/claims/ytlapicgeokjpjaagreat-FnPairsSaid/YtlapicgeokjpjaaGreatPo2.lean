/- Contracts: the partner of a route, both sides. -/
import Derived.Test.YtlapicgeokjpjaaGreatPo
import Derived.Test.YtlapicgeokjpjaaGreatBp4
import Derived.Test.YtlapicgeokjpjaaGreatU6
namespace Go.Proofs.YtlapicgeokjpjaaGreat
open Go.RowKit Go.PlainAid

theorem RtOwn.setR {w : World} {base g : Nat} {v : Value} {R : Int × List Int} {cs : List Value} (h : RtOwn w base v R) (hr : RowAt w g 39 cs) (i : Nat) (u : Value) : RtOwn (w.setCell ⟨g, i, none⟩ u) base v R := by
  obtain ⟨q, c, h1, h2⟩ := h
  refine ⟨q, c, h1, ?_⟩
  rcases h2 with h2 | ⟨b, sp, e1, e2, e3⟩
  · exact Or.inl h2
  · exact Or.inr ⟨b, sp, e1, e2, e3.setOther (fun e => by subst e; exact absurd (e3.inj hr).1 (by decide)) _⟩
theorem one_res {w : World} {A : Nat} {t : TypeId} {u0 u1 : Value} (hA : RowAt w A t [u0, u1]) (a0 a1 : Value) :
    (w.cell? ⟨A, 0, none⟩ = some u0 ∧ w.cell? ⟨A, 1, none⟩ = some u1 ∧ w.frozen? ⟨A, 0, none⟩ = false ∧ w.frozen? ⟨A, 1, none⟩ = false) ∧
    ((w.setCell ⟨A, 0, none⟩ a0).setCell ⟨A, 1, none⟩ a1).cell? ⟨A, 0, none⟩ = some a0 ∧ ((w.setCell ⟨A, 0, none⟩ a0).setCell ⟨A, 1, none⟩ a1).cell? ⟨A, 1, none⟩ = some a1 :=
  ⟨⟨hA.cell rfl, hA.cell rfl, hA.frozen 0, hA.frozen 1⟩, ((hA.set 0 a0).set 1 a1).cell rfl, ((hA.set 0 a0).set 1 a1).cell rfl⟩
theorem partF_small (n : Net) (R : Int × List Int) (k : Int) : SmRt (partF n R k).1 := by
  cases h : partB n R k && okA n R.1 (endW n R)
  · rw [partF_no h]; simp [SmRt]
  · simp only [Bool.and_eq_true] at h
    rw [partF_yes h.1 h.2]
    have hp := pairB_in (okA_pair h.2)
    show SmRt ((prtF n R k).getD (0, []))
    cases hq : prtF n R k with
    | none => simp [SmRt]
    | some X =>
      have hg := good_mem (List.mem_of_find?_eq_some hq)
      obtain ⟨_, _, a3, a4, _⟩ := nodes_at hp.1 hp.2.1 hg.2
      simp [SmRt]; omega
theorem out_zero {n : Net} {R : Int × List Int} {k : Int} {w w' : World} {b : Bool} (h : partF n R k = ((0, []), false, b)) (hf : Fresh w w') :
    ∃ v', Ending.returned (.tuple #[.agg #[.int .i64 0, .slice none 0 0], .bool false, .bool b]) = .returned (.tuple #[v', .bool (partF n R k).2.1, .bool (partF n R k).2.2]) ∧ RtOwn w' w.heap.size v' (partF n R k).1 ∧ Fresh w w' :=
  ⟨_, by rw [h], by rw [h]; exact rt_zero _ _, hf⟩
set_option maxHeartbeats 4000000 in
set_option maxRecDepth 20000 in
theorem implPartnerOf_any (v : Value) (n : Net) (v2 : Value) (R : Int × List Int) (k : Int) (w : World) (h : NetIn w v n) (h2 : RtIn w v2 R) :
    Calls Tryz.prog 17 #[v, v2, .int .i64 k] w fun e w' => ∃ v', e = .returned (.tuple #[v', .bool (partF n R k).2.1, .bool (partF n R k).2.2]) ∧ RtOwn w' w.heap.size v' (partF n R k).1 ∧ Fresh w w' := by
  have HN := Lib.hid h
  obtain ⟨s, q, cap, a, rfl, ha, hl, rfl⟩ := h2
  obtain ⟨qn, cn, pn, cp, rfl, _, _, n1, _, _, _, _⟩ := h
  obtain ⟨W3, hW3, hsz3, hf3, r1, r2, r3⟩ := three_rows w [.slice qn n.nodes.length cn, .slice pn n.fibers.length cp] [.int .i64 s, .slice q a.length cap] [.int .i64 0, .slice none 0 0] 27 39 39
  have HVR := Lib.hid (implIsValidRoute_any _ n _ (s, a) W3 (HN.out.keep hf3) ⟨s, q, cap, a, rfl, ha.keep hf3, hl, rfl⟩)
  have HF3 := Lib.hid hf3
  have HW3 := Lib.hid hW3
  have HR1 := Lib.hid r1
  have HR2 := Lib.hid r2
  have HR3 := Lib.hid r3
  have HS3 := Lib.hid hsz3
  have HA := Lib.hid ha
  have HKI := Lib.hid (isKind_any k)
  have hwA : w.heap.size ≤ w.heap.size + 1 + 1 := by omega
  clear hf3 hW3 r1 r2 r3 hsz3 ha
  cases hv : netB n && isVis n s a
  · have HDEF := Lib.hid (partF_no (n := n) (R := (s, a)) (k := k) (by unfold partB; simp only; rw [hv]; rfl))
    simp only [hv] at HVR
    clear hv
    go_enter Tryz.func17, Tryz.ntmps17
    go_wp2_with fail
    rw [← HW3.out]
    refine (HVR.out).mono ?_
    rintro e w4 ⟨rfl, hf⟩
    obtain ⟨⟨z0, z1, u0, u1⟩, k0, k1⟩ := one_res (HR3.out.keep hf) (.int .i64 0) (.slice none 0 0)
    have HF := Lib.hid (fstep HF3.out hf)
    clear hf HVR
    go_wp2
    refine bodyPost_ret (v := .tuple #[.agg #[.int .i64 0, .slice none 0 0], .bool false, .bool false]) (by simp [results, Tryz.results17, go_sem, k0, k1]) rfl ?_
    exact out_zero HDEF.out (fset (fset HF.out hwA _) hwA _)
  · have HV := Lib.hid hv
    simp only [hv] at HVR
    clear hv
    cases hkb : kindB k
    · have HDEF := Lib.hid (partF_no (n := n) (R := (s, a)) (k := k) (by unfold partB; rw [hkb, Bool.and_false]; rfl))
      rw [hkb] at HKI
      clear hkb
      go_enter Tryz.func17, Tryz.ntmps17
      go_wp2_with fail
      rw [← HW3.out]
      refine (HVR.out).mono ?_
      rintro e w4 ⟨rfl, hf⟩
      obtain ⟨⟨z0, z1, u0, u1⟩, k0, k1⟩ := one_res (HR3.out.keep hf) (.int .i64 0) (.slice none 0 0)
      have HF := Lib.hid (fstep HF3.out hf)
      clear hf HVR
      go_wp2_with (go_at_call 23; refine (HKI.out _).mono ?_; rintro e w5 ⟨rfl, rfl⟩)
      refine bodyPost_ret (v := .tuple #[.agg #[.int .i64 0, .slice none 0 0], .bool false, .bool false]) (by simp [results, Tryz.results17, go_sem, k0, k1]) rfl ?_
      exact out_zero HDEF.out (fset (fset HF.out hwA _) hwA _)
    · have hvv : netB n = true ∧ isVis n s a = true := by simpa using HV.out
      obtain ⟨hs, hg⟩ := vis_good hvv.2
      have HVV := Lib.hid hvv
      have HGD := Lib.hid hg
      have HSB := Lib.hid hs
      have HKB := Lib.hid hkb
      have HPB : Hid (partB n (s, a) k = true) := by show _ = _; unfold partB; simp only; rw [HV.out, hkb]; rfl
      rw [hkb] at HKI
      clear hkb hvv hs hg
      go_enter Tryz.func17, Tryz.ntmps17
      go_wp2_with fail
      rw [← HW3.out]
      refine (HVR.out).mono ?_
      rintro e w4 ⟨rfl, hf⟩
      have HF := Lib.hid (fstep HF3.out hf)
      have n0 := (HR1.out.keep hf).cell (i := 0) rfl
      have n1' := (HR1.out.keep hf).cell (i := 1) rfl
      have a0 := (HR2.out.keep hf).cell (i := 0) rfl
      have a1 := (HR2.out.keep hf).cell (i := 1) rfl
      have HF4 := Lib.hid hf
      clear hf HVR
      go_wp2_with (go_at_call 23; refine (HKI.out _).mono ?_; rintro e w5 ⟨rfl, rfl⟩)
      obtain ⟨t, ht⟩ : ∃ t, t = endW n (s, a) := ⟨_, rfl⟩
      have HT := Lib.hid ht
      clear ht
      go_wp2
      have HSS : Fresh w4 w4 ∧ w4.cell? ⟨w.heap.size, 0, none⟩ = some (.slice qn n.nodes.length cn) ∧ w4.cell? ⟨w.heap.size, 1, none⟩ = some (.slice pn n.fibers.length cp) ∧ w4.cell? ⟨w.heap.size + 1, 0, none⟩ = some (.int .i64 s) ∧ w4.cell? ⟨w.heap.size + 1, 1, none⟩ = some (.slice q a.length cap) := ⟨frefl _, n0, n1', a0, a1⟩
      go_region_held3 (fun w' => Fresh w4 w' ∧ w'.cell? ⟨w.heap.size, 0, none⟩ = some (.slice qn n.nodes.length cn) ∧ w'.cell? ⟨w.heap.size, 1, none⟩ = some (.slice pn n.fibers.length cp) ∧ w'.cell? ⟨w.heap.size + 1, 0, none⟩ = some (.int .i64 s) ∧ w'.cell? ⟨w.heap.size + 1, 1, none⟩ = some (.slice q a.length cap))
        (first | assumption | exact keepc4 (by assumption) (by assumption) | exact keepc4 (by assumption) (fdrew (frefl _)) | exact keepc4 (by assumption) (frefl _))
        (first | (go_at_call 38; refine (endOf_any _ n s q cap a _ (HN.out.keep (fstep HF.out (And.left (by assumption)))) (HA.out.keep (fstep HF.out (And.left (by assumption)))) hl (HVV.out).2).mono ?_; rintro e w5 ⟨rfl, hf5⟩; rw [← HT.out]) | (go_at_call 42; refine (implAllRoutes_any _ n s t _ (HN.out.keep (fstep HF.out (And.left (by assumption))))).mono ?_; rintro e w6 ⟨V, l, rfl, hr, hv, hf6⟩))
      replace hf5 : Fresh w4 w5 := fstep (fdrew (frefl _)) hf5
      replace HF := Lib.hid (fstep (fstep HF.out hf5) hf6)
      replace n0 := fkeep hf6 (fkeep hf5 n0)
      replace n1' := fkeep hf6 (fkeep hf5 n1')
      replace a0 := fkeep hf6 (fkeep hf5 a0)
      replace a1 := fkeep hf6 (fkeep hf5 a1)
      have HF5 := Lib.hid (fstep HF4.out hf5)
      clear hf5 HSS
      have HF6 := Lib.hid (fstep HF5.out hf6)
      have HSZ6 := Lib.hid (fstep HF3.out HF5.out).size
      cases hoa : okA n s t
      · have HDEF := Lib.hid (partF_no (n := n) (R := (s, a)) (k := k) (by simp only; rw [← HT.out, hoa, Bool.and_false]))
        obtain ⟨⟨z0, z1, u0, u1⟩, k0, k1⟩ := one_res (HR3.out.keep HF6.out) (.int .i64 0) (.slice none 0 0)
        clear hr hv hf6 hoa n0 n1' a0 a1
        go_wp2
        refine bodyPost_ret (v := .tuple #[.agg #[.int .i64 0, .slice none 0 0], .bool false, .bool false]) (by simp [results, Tryz.results17, go_sem, k0, k1]) rfl ?_
        exact out_zero HDEF.out (fset (fset HF.out hwA _) hwA _)
      · obtain ⟨p, c, rfl, _, _, _⟩ := owns_cap hr.row
        have hval : l.map LR.val = allR n s t := by rw [hv, (okA_len hoa).2]
        have hll : l.length ≤ 200 := by
          have := congrArg List.length hval
          rw [List.length_map] at this
          rw [this]; exact (okA_len hoa).1
        have HDEF := Lib.hid (partF_yes (n := n) (R := (s, a)) (k := k) HPB.out (by simp only; rw [← HT.out]; exact hoa))
        have HFV : Hid (prtF n (s, a) k = (l.find? fun y => disjB n s a y.fibs k).map LR.val) := by
          show _ = _
          unfold prtF
          simp only
          rw [← HT.out, ← hval]
          exact find_val (P := fun y => disjB n s a y k)
        have HOW := Lib.hid (rtV_own hr (P := fun y => disjB n s a y.fibs k))
        have HPA := Lib.hid (partner_any _ n s t k p c l q cap a w5.heap.size w6 (HN.out.keep HF.out) (HVV.out).1 HSB.out (kindB_in HKB.out) (rts_good hval) (by omega) hr (by rw [HT.out]; exact HGD.out) (HA.out.keep HF.out))
        obtain ⟨o, ho⟩ : ∃ o, o = l.find? fun y => disjB n s a y.fibs k := ⟨_, rfl⟩
        rw [← ho] at HFV HOW HPA
        obtain ⟨a', q', m', c', he⟩ := rtV_shape o
        rw [he] at HOW HPA
        obtain ⟨fo, hfo⟩ : ∃ b, b = o.isSome := ⟨_, rfl⟩
        rw [← hfo] at HPA
        have HFO := Lib.hid hfo
        clear hr hv hf6 hoa hval ho he hfo
        go_wp2_with fail
        refine (HPA.out).mono ?_
        rintro e w7 ⟨rfl, hf7⟩
        obtain ⟨W8, hW8⟩ : ∃ W, W = w7.alloc (.cells #[.int .i64 a', .slice q' m' c'] 39) := ⟨_, rfl⟩
        have hf8 : Fresh w7 W8 := by rw [hW8]; exact fnew (frefl _) _
        have hr8 : RowAt W8 w7.heap.size 39 [.int .i64 a', .slice q' m' c'] := by rw [hW8]; exact RowAt.new _ _ _
        have b0 := hr8.cell (i := 0) rfl
        have b1 := hr8.cell (i := 1) rfl
        obtain ⟨⟨z0, z1, u0, u1⟩, k0, k1⟩ := one_res ((((HR3.out.keep HF6.out).keep hf7)).keep hf8) (.int .i64 a') (.slice q' m' c')
        have HF8 := Lib.hid (fstep (fstep HF.out hf7) hf8)
        have HO8 := Lib.hid ((HOW.out.keep hf7).keep hf8)
        have hlt8 : w.heap.size + 1 + 1 < w5.heap.size := by have := HS3.out; have := HF5.out.size; omega
        rw [hW8] at b0 b1 z0 z1 u0 u1 k0 k1
        have HW8 := Lib.hid hW8
        clear hf7 hf8 hr8 hW8 n0 n1' a0 a1 HPA
        go_wp2
        refine bodyPost_ret (v := .tuple #[.agg #[.int .i64 a', .slice q' m' c'], .bool fo, .bool true]) (by simp [results, Tryz.results17, go_sem, k0, k1]) rfl ?_
        rw [← HW8.out]
        refine ⟨.agg #[.int .i64 a', .slice q' m' c'], by rw [HDEF.out, HFV.out, HFO.out]; simp, ?_, fset (fset HF8.out hwA _) hwA _⟩
        rw [HDEF.out, HFV.out]
        exact ((HO8.out.setO hlt8 _ _).setO hlt8 _ _).mono (by have := HSZ6.out; omega)
end Go.Proofs.YtlapicgeokjpjaaGreat
