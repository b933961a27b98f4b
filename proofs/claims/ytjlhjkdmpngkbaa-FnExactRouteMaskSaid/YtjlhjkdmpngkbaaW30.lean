/- The walk of FnExactRouteMask. -/
import Derived.Test.YtjlhjkdmpngkbaaRm
import Derived.Deep.RegionHeld3
import Derived.Deep.DeepCutAuto
namespace Go.Proofs.Ytjlhjkdmpngkbaa
open Go.RowKit Go.PlainAid

set_option maxHeartbeats 4000000 in
set_option maxRecDepth 100000 in
theorem law_RouteMask (v0 : Value) (x0 : PlanV) (v1 : Value) (x1 : Int × List Int) (w : World) (h0 : PlRaw w v0 x0) (h1 : RtRaw w v1 x1) :
    Calls Try.prog 12 #[v0, v1] w fun e w' => e = .returned (.bool true) ∧ Fresh w w' := by
  obtain ⟨q0a, m0a, c0a, p0a, k0a, d0a, r0a, i0a, e0a, hv0⟩ := h0.shape
  subst hv0
  obtain ⟨s1a, q1a, m1a, c1a, hv1⟩ := h1.shape
  subst hv1
  have HI0 := Lib.hid h0
  clear h0
  have HI1 := Lib.hid h1
  clear h1
  obtain ⟨r0, hr0⟩ : ∃ r0, r0 = (rmaskF x0 x1).1 := ⟨_, rfl⟩
  have HR0 := Lib.hid hr0
  clear hr0
  obtain ⟨r1, hr1⟩ : ∃ r1, r1 = (rmaskF x0 x1).2 := ⟨_, rfl⟩
  have HR1 := Lib.hid hr1
  clear hr1
  obtain ⟨B0, hB0⟩ : ∃ B, B = w.alloc (.cells #[.slice q0a m0a c0a, .slice p0a k0a d0a, .slice r0a i0a e0a] 57) := ⟨_, rfl⟩
  have hz0 : B0.heap.size = w.heap.size + 1 := by rw [hB0]; simp
  have hf0 : Fresh w B0 := by rw [hB0]; exact fnew (frefl _) _
  have hrow0 : RowAt B0 w.heap.size 57 [.slice q0a m0a c0a, .slice p0a k0a d0a, .slice r0a i0a e0a] := by rw [hB0]; exact RowAt.new _ _ _
  obtain ⟨B1, hB1⟩ : ∃ B, B = B0.alloc (.cells #[.int .i64 s1a, .slice q1a m1a c1a] 71) := ⟨_, rfl⟩
  have hz1 : B1.heap.size = B0.heap.size + 1 := by rw [hB1]; simp
  have hf1 : Fresh B0 B1 := by rw [hB1]; exact fnew (frefl _) _
  have hrow1 : RowAt B1 B0.heap.size 71 [.int .i64 s1a, .slice q1a m1a c1a] := by rw [hB1]; exact RowAt.new _ _ _
  replace hrow0 := hrow0.keep hf1
  have HF := Lib.hid (fstep (fstep (frefl w) hf0) hf1)
  have a0_0 := hrow0.cell (i := 0) rfl
  have a0_1 := hrow0.cell (i := 1) rfl
  have a0_2 := hrow0.cell (i := 2) rfl
  have a1_0 := hrow1.cell (i := 0) rfl
  have a1_1 := hrow1.cell (i := 1) rfl
  rw [hz0] at a1_0 a1_1
  have HB := Lib.hid (And.intro hB0 hB1)
  clear hB0 hz0 hf0 hrow0 hB1 hz1 hf1 hrow1
  go_enter Try.func12, Try.ntmps12
  go_wp2_with fail
  rw [← HB.out.1, ← HB.out.2]
  clear HB
  refine (szPlan_k _ x0 1048576 _ (PlRaw.keep HI0.out HF.out) (by omega) (by omega)).mono ?_
  rintro e w1 ⟨l0, rfl, l00, l01, hsm, hb⟩
  have HS0 := Lib.hid hsm
  clear hsm
  replace a0_0 := fkeep hb a0_0
  replace a0_1 := fkeep hb a0_1
  replace a0_2 := fkeep hb a0_2
  replace a1_0 := fkeep hb a1_0
  replace a1_1 := fkeep hb a1_1
  have HF := Lib.hid (fstep HF.out hb)
  clear hb
  by_cases hneg0 : l0 < 0
  · go_wp2
    go_ret
    exact ⟨rfl, HF.out⟩
  go_wp2_with fail
  refine (szRoute_k _ x1 l0 _ (RtRaw.keep HI1.out HF.out) (by omega) (by omega)).mono ?_
  rintro e w2 ⟨l1, rfl, l10, l11, hsm, hb⟩
  have HS1 := Lib.hid hsm
  clear hsm
  replace a0_0 := fkeep hb a0_0
  replace a0_1 := fkeep hb a0_1
  replace a0_2 := fkeep hb a0_2
  replace a1_0 := fkeep hb a1_0
  replace a1_1 := fkeep hb a1_1
  have HF := Lib.hid (fstep HF.out hb)
  clear hb
  by_cases hneg1 : l1 < 0
  · go_wp2
    go_ret
    exact ⟨rfl, HF.out⟩
  replace HI0 := Lib.hid (PlRaw.small HI0.out (HS0.out (by omega)))
  clear HS0
  replace HI1 := Lib.hid (RtRaw.small HI1.out (HS1.out (by omega)))
  clear HS1
  go_wp2
  have HSS : Fresh w2 w2 ∧ w2.cell? ⟨w.heap.size, 0, none⟩ = some (.slice q0a m0a c0a) ∧ w2.cell? ⟨w.heap.size, 1, none⟩ = some (.slice p0a k0a d0a) ∧ w2.cell? ⟨w.heap.size, 2, none⟩ = some (.slice r0a i0a e0a) ∧ w2.cell? ⟨w.heap.size + 1, 0, none⟩ = some (.int .i64 s1a) ∧ w2.cell? ⟨w.heap.size + 1, 1, none⟩ = some (.slice q1a m1a c1a) := ⟨frefl _, a0_0, a0_1, a0_2, a1_0, a1_1⟩
  go_region_held3 (fun w' => Fresh w2 w' ∧ w'.cell? ⟨w.heap.size, 0, none⟩ = some (.slice q0a m0a c0a) ∧ w'.cell? ⟨w.heap.size, 1, none⟩ = some (.slice p0a k0a d0a) ∧ w'.cell? ⟨w.heap.size, 2, none⟩ = some (.slice r0a i0a e0a) ∧ w'.cell? ⟨w.heap.size + 1, 0, none⟩ = some (.int .i64 s1a) ∧ w'.cell? ⟨w.heap.size + 1, 1, none⟩ = some (.slice q1a m1a c1a))
    (first | assumption | exact keepc5 (by assumption) (by assumption) | exact keepc5 (by assumption) (fdrew (frefl _)) | exact keepc5 (by assumption) (frefl _))
    (first | (go_at_call 39; refine (toPlan_k _ x0 _ (HI0.out.keep (fstep HF.out (And.left (by assumption))))).mono ?_; rintro e w3 ⟨y0, rfl, hy, hbb0⟩; have HY0 := Lib.hid hy; clear hy) | (go_at_call 62; refine (toRoute_k _ x1 _ (HI1.out.keep (fstep HF.out (And.left (by assumption))))).mono ?_; rintro e w4 ⟨y1, rfl, hy, hbb1⟩; have HY1 := Lib.hid hy; clear hy) | (go_at_call 61; have hcc := specRouteMask_any _ x0 _ x1 _ (HY0.out.keep hbb1) HY1.out; rw [← HR0.out, ← HR1.out] at hcc; refine hcc.mono ?_; clear hcc; rintro e w5 ⟨rfl, hbbs⟩))
  have hb : Fresh w2 w5 := fstep (fstep (fstep (fdrew (frefl _)) hbb0) hbb1) hbbs
  clear hbb0 hbb1 hbbs HSS HY0 HY1
  replace a0_0 := fkeep hb a0_0
  replace a0_1 := fkeep hb a0_1
  replace a0_2 := fkeep hb a0_2
  replace a1_0 := fkeep hb a1_0
  replace a1_1 := fkeep hb a1_1
  have HF := Lib.hid (fstep HF.out hb)
  clear hb
  go_wp2_with fail
  refine (toPlan_k _ x0 _ (HI0.out.keep HF.out)).mono ?_
  rintro e w6 ⟨z0, rfl, hy, hb⟩
  have HZ0 := Lib.hid hy
  clear hy
  replace a0_0 := fkeep hb a0_0
  replace a0_1 := fkeep hb a0_1
  replace a0_2 := fkeep hb a0_2
  replace a1_0 := fkeep hb a1_0
  replace a1_1 := fkeep hb a1_1
  have HF := Lib.hid (fstep HF.out hb)
  clear hb
  obtain ⟨q0x, m0x, c0x, p0x, k0x, d0x, r0x, i0x, e0x, hv⟩ := HZ0.out.shape
  subst hv
  obtain ⟨X0, hX⟩ : ∃ X, X = w6.alloc (.cells #[.slice q0x m0x c0x, .slice p0x k0x d0x, .slice r0x i0x e0x] 62) := ⟨_, rfl⟩
  have hb : Fresh w6 X0 := by rw [hX]; exact fnew (frefl _) _
  have La0_0 := fkeep (fnew (frefl w6) (.cells #[.slice q0x m0x c0x, .slice p0x k0x d0x, .slice r0x i0x e0x] 62)) a0_0
  have La0_1 := fkeep (fnew (frefl w6) (.cells #[.slice q0x m0x c0x, .slice p0x k0x d0x, .slice r0x i0x e0x] 62)) a0_1
  have La0_2 := fkeep (fnew (frefl w6) (.cells #[.slice q0x m0x c0x, .slice p0x k0x d0x, .slice r0x i0x e0x] 62)) a0_2
  have La1_0 := fkeep (fnew (frefl w6) (.cells #[.slice q0x m0x c0x, .slice p0x k0x d0x, .slice r0x i0x e0x] 62)) a1_0
  have La1_1 := fkeep (fnew (frefl w6) (.cells #[.slice q0x m0x c0x, .slice p0x k0x d0x, .slice r0x i0x e0x] 62)) a1_1
  have c0_0 : X0.cell? ⟨w6.heap.size, 0, none⟩ = some (.slice q0x m0x c0x) := by rw [hX]; exact (RowAt.new w6 62 [.slice q0x m0x c0x, .slice p0x k0x d0x, .slice r0x i0x e0x]).cell (i := 0) rfl
  have c0_1 : X0.cell? ⟨w6.heap.size, 1, none⟩ = some (.slice p0x k0x d0x) := by rw [hX]; exact (RowAt.new w6 62 [.slice q0x m0x c0x, .slice p0x k0x d0x, .slice r0x i0x e0x]).cell (i := 1) rfl
  have c0_2 : X0.cell? ⟨w6.heap.size, 2, none⟩ = some (.slice r0x i0x e0x) := by rw [hX]; exact (RowAt.new w6 62 [.slice q0x m0x c0x, .slice p0x k0x d0x, .slice r0x i0x e0x]).cell (i := 2) rfl
  replace a0_0 := fkeep hb a0_0
  replace a0_1 := fkeep hb a0_1
  replace a0_2 := fkeep hb a0_2
  replace a1_0 := fkeep hb a1_0
  replace a1_1 := fkeep hb a1_1
  have HF := Lib.hid (fstep HF.out hb)
  replace HZ0 := Lib.hid (HZ0.out.keep hb)
  clear hb
  have Ha0_0 := Lib.hid a0_0
  have Ha0_1 := Lib.hid a0_1
  have Ha0_2 := Lib.hid a0_2
  have Ha1_0 := Lib.hid a1_0
  have Ha1_1 := Lib.hid a1_1
  have Hc0_0 := Lib.hid c0_0
  have Hc0_1 := Lib.hid c0_1
  have Hc0_2 := Lib.hid c0_2
  clear a0_0 a0_1 a0_2 a1_0 a1_1 c0_0 c0_1 c0_2
  have HX0 := Lib.hid hX
  clear hX
  go_wp2_with fail
  rw [← HX0.out]
  clear HX0
  clear La0_0 La0_1 La0_2 La1_0 La1_1
  have a0_0 := Ha0_0.out
  have a0_1 := Ha0_1.out
  have a0_2 := Ha0_2.out
  have a1_0 := Ha1_0.out
  have a1_1 := Ha1_1.out
  have c0_0 := Hc0_0.out
  have c0_1 := Hc0_1.out
  have c0_2 := Hc0_2.out
  clear Ha0_0 Ha0_1 Ha0_2 Ha1_0 Ha1_1 Hc0_0 Hc0_1 Hc0_2
  go_wp2_with fail
  refine (toRoute_k _ x1 _ (HI1.out.keep HF.out)).mono ?_
  rintro e w7 ⟨z1, rfl, hy, hb⟩
  have HZ1 := Lib.hid hy
  clear hy
  replace a0_0 := fkeep hb a0_0
  replace a0_1 := fkeep hb a0_1
  replace a0_2 := fkeep hb a0_2
  replace a1_0 := fkeep hb a1_0
  replace a1_1 := fkeep hb a1_1
  replace c0_0 := fkeep hb c0_0
  replace c0_1 := fkeep hb c0_1
  replace c0_2 := fkeep hb c0_2
  have HF := Lib.hid (fstep HF.out hb)
  replace HZ0 := Lib.hid (HZ0.out.keep hb)
  clear hb
  obtain ⟨s1x, q1x, m1x, c1x, hv⟩ := HZ1.out.shape
  subst hv
  obtain ⟨X1, hX⟩ : ∃ X, X = w7.alloc (.cells #[.int .i64 s1x, .slice q1x m1x c1x] 79) := ⟨_, rfl⟩
  have hb : Fresh w7 X1 := by rw [hX]; exact fnew (frefl _) _
  have La0_0 := fkeep (fnew (frefl w7) (.cells #[.int .i64 s1x, .slice q1x m1x c1x] 79)) a0_0
  have La0_1 := fkeep (fnew (frefl w7) (.cells #[.int .i64 s1x, .slice q1x m1x c1x] 79)) a0_1
  have La0_2 := fkeep (fnew (frefl w7) (.cells #[.int .i64 s1x, .slice q1x m1x c1x] 79)) a0_2
  have La1_0 := fkeep (fnew (frefl w7) (.cells #[.int .i64 s1x, .slice q1x m1x c1x] 79)) a1_0
  have La1_1 := fkeep (fnew (frefl w7) (.cells #[.int .i64 s1x, .slice q1x m1x c1x] 79)) a1_1
  have Lc0_0 := fkeep (fnew (frefl w7) (.cells #[.int .i64 s1x, .slice q1x m1x c1x] 79)) c0_0
  have Lc0_1 := fkeep (fnew (frefl w7) (.cells #[.int .i64 s1x, .slice q1x m1x c1x] 79)) c0_1
  have Lc0_2 := fkeep (fnew (frefl w7) (.cells #[.int .i64 s1x, .slice q1x m1x c1x] 79)) c0_2
  have c1_0 : X1.cell? ⟨w7.heap.size, 0, none⟩ = some (.int .i64 s1x) := by rw [hX]; exact (RowAt.new w7 79 [.int .i64 s1x, .slice q1x m1x c1x]).cell (i := 0) rfl
  have c1_1 : X1.cell? ⟨w7.heap.size, 1, none⟩ = some (.slice q1x m1x c1x) := by rw [hX]; exact (RowAt.new w7 79 [.int .i64 s1x, .slice q1x m1x c1x]).cell (i := 1) rfl
  replace a0_0 := fkeep hb a0_0
  replace a0_1 := fkeep hb a0_1
  replace a0_2 := fkeep hb a0_2
  replace a1_0 := fkeep hb a1_0
  replace a1_1 := fkeep hb a1_1
  replace c0_0 := fkeep hb c0_0
  replace c0_1 := fkeep hb c0_1
  replace c0_2 := fkeep hb c0_2
  have HF := Lib.hid (fstep HF.out hb)
  replace HZ0 := Lib.hid (HZ0.out.keep hb)
  replace HZ1 := Lib.hid (HZ1.out.keep hb)
  clear hb
  have Ha0_0 := Lib.hid a0_0
  have Ha0_1 := Lib.hid a0_1
  have Ha0_2 := Lib.hid a0_2
  have Ha1_0 := Lib.hid a1_0
  have Ha1_1 := Lib.hid a1_1
  have Hc0_0 := Lib.hid c0_0
  have Hc0_1 := Lib.hid c0_1
  have Hc0_2 := Lib.hid c0_2
  have Hc1_0 := Lib.hid c1_0
  have Hc1_1 := Lib.hid c1_1
  clear a0_0 a0_1 a0_2 a1_0 a1_1 c0_0 c0_1 c0_2 c1_0 c1_1
  have HX1 := Lib.hid hX
  clear hX
  go_wp2_with fail
  rw [← HX1.out]
  clear HX1
  clear La0_0 La0_1 La0_2 La1_0 La1_1 Lc0_0 Lc0_1 Lc0_2
  have a0_0 := Ha0_0.out
  have a0_1 := Ha0_1.out
  have a0_2 := Ha0_2.out
  have a1_0 := Ha1_0.out
  have a1_1 := Ha1_1.out
  have c0_0 := Hc0_0.out
  have c0_1 := Hc0_1.out
  have c0_2 := Hc0_2.out
  have c1_0 := Hc1_0.out
  have c1_1 := Hc1_1.out
  clear Ha0_0 Ha0_1 Ha0_2 Ha1_0 Ha1_1 Hc0_0 Hc0_1 Hc0_2 Hc1_0 Hc1_1
  go_wp2_with fail
  have hcc := implRouteMask_any _ x0 _ x1 _ (HZ0.out) (HZ1.out)
  rw [← HR0.out, ← HR1.out] at hcc
  refine (hcc).mono ?_
  clear hcc
  rintro e w8 ⟨rfl, hb⟩
  replace a0_0 := fkeep hb a0_0
  replace a0_1 := fkeep hb a0_1
  replace a0_2 := fkeep hb a0_2
  replace a1_0 := fkeep hb a1_0
  replace a1_1 := fkeep hb a1_1
  replace c0_0 := fkeep hb c0_0
  replace c0_1 := fkeep hb c0_1
  replace c0_2 := fkeep hb c0_2
  replace c1_0 := fkeep hb c1_0
  replace c1_1 := fkeep hb c1_1
  have HF := Lib.hid (fstep HF.out hb)
  replace HZ0 := Lib.hid (HZ0.out.keep hb)
  replace HZ1 := Lib.hid (HZ1.out.keep hb)
  clear hb
  go_wp2
  have HSS : Fresh w8 w8 ∧ w8.cell? ⟨w6.heap.size, 0, none⟩ = some (.slice q0x m0x c0x) ∧ w8.cell? ⟨w6.heap.size, 1, none⟩ = some (.slice p0x k0x d0x) ∧ w8.cell? ⟨w6.heap.size, 2, none⟩ = some (.slice r0x i0x e0x) ∧ w8.cell? ⟨w.heap.size, 0, none⟩ = some (.slice q0a m0a c0a) ∧ w8.cell? ⟨w.heap.size, 1, none⟩ = some (.slice p0a k0a d0a) ∧ w8.cell? ⟨w.heap.size, 2, none⟩ = some (.slice r0a i0a e0a) := ⟨frefl _, c0_0, c0_1, c0_2, a0_0, a0_1, a0_2⟩
  go_region_held3 (fun w' => Fresh w8 w' ∧ w'.cell? ⟨w6.heap.size, 0, none⟩ = some (.slice q0x m0x c0x) ∧ w'.cell? ⟨w6.heap.size, 1, none⟩ = some (.slice p0x k0x d0x) ∧ w'.cell? ⟨w6.heap.size, 2, none⟩ = some (.slice r0x i0x e0x) ∧ w'.cell? ⟨w.heap.size, 0, none⟩ = some (.slice q0a m0a c0a) ∧ w'.cell? ⟨w.heap.size, 1, none⟩ = some (.slice p0a k0a d0a) ∧ w'.cell? ⟨w.heap.size, 2, none⟩ = some (.slice r0a i0a e0a))
    (first | assumption | exact keepc6 (by assumption) (by assumption) | exact keepc6 (by assumption) (fdrew (frefl _)) | exact keepc6 (by assumption) (frefl _))
    (first | (go_at_call 39; refine (toPlan_k _ x0 _ (HI0.out.keep (fstep HF.out (And.left (by assumption))))).mono ?_; rintro e w9 ⟨t0, rfl, hy, hb10⟩; have HT0 := Lib.hid hy; clear hy) | (go_at_call 41; refine (eqPlan_k _ _ x0 _ (HZ0.out.keep (And.left (by assumption))) HT0.out).mono ?_; rintro e w10 ⟨rfl, hb11⟩))
  have hb : Fresh w8 w10 := fstep (fstep (fdrew (frefl _)) hb10) hb11
  clear hb10 hb11 HSS HT0 c0_0 c0_1 c0_2
  clear HZ0
  replace a0_0 := fkeep hb a0_0
  replace a0_1 := fkeep hb a0_1
  replace a0_2 := fkeep hb a0_2
  replace a1_0 := fkeep hb a1_0
  replace a1_1 := fkeep hb a1_1
  replace c1_0 := fkeep hb c1_0
  replace c1_1 := fkeep hb c1_1
  have HF := Lib.hid (fstep HF.out hb)
  replace HZ1 := Lib.hid (HZ1.out.keep hb)
  clear hb
  go_wp2
  have HSS : Fresh w10 w10 ∧ w10.cell? ⟨w7.heap.size, 0, none⟩ = some (.int .i64 s1x) ∧ w10.cell? ⟨w7.heap.size, 1, none⟩ = some (.slice q1x m1x c1x) ∧ w10.cell? ⟨w.heap.size + 1, 0, none⟩ = some (.int .i64 s1a) ∧ w10.cell? ⟨w.heap.size + 1, 1, none⟩ = some (.slice q1a m1a c1a) := ⟨frefl _, c1_0, c1_1, a1_0, a1_1⟩
  go_region_held3 (fun w' => Fresh w10 w' ∧ w'.cell? ⟨w7.heap.size, 0, none⟩ = some (.int .i64 s1x) ∧ w'.cell? ⟨w7.heap.size, 1, none⟩ = some (.slice q1x m1x c1x) ∧ w'.cell? ⟨w.heap.size + 1, 0, none⟩ = some (.int .i64 s1a) ∧ w'.cell? ⟨w.heap.size + 1, 1, none⟩ = some (.slice q1a m1a c1a))
    (first | assumption | exact keepc4 (by assumption) (by assumption) | exact keepc4 (by assumption) (fdrew (frefl _)) | exact keepc4 (by assumption) (frefl _))
    (first | (go_at_call 62; refine (toRoute_k _ x1 _ (HI1.out.keep (fstep HF.out (And.left (by assumption))))).mono ?_; rintro e w11 ⟨t1, rfl, hy, hb10⟩; have HT1 := Lib.hid hy; clear hy) | (go_at_call 64; refine (eqRoute_k _ _ x1 _ (HZ1.out.keep (And.left (by assumption))) HT1.out).mono ?_; rintro e w12 ⟨rfl, hb11⟩))
  have hb : Fresh w10 w12 := fstep (fstep (fdrew (frefl _)) hb10) hb11
  clear hb10 hb11 HSS HT1 c1_0 c1_1
  clear HZ1
  replace a0_0 := fkeep hb a0_0
  replace a0_1 := fkeep hb a0_1
  replace a0_2 := fkeep hb a0_2
  replace a1_0 := fkeep hb a1_0
  replace a1_1 := fkeep hb a1_1
  have HF := Lib.hid (fstep HF.out hb)
  clear hb
  go_wp2
  go_ret
  exact ⟨rfl, HF.out⟩
end Go.Proofs.Ytjlhjkdmpngkbaa
